import Derived.Test.YtimpjlnbbdfehaaGreatDoorGI
namespace Go.Proofs.YtimpjlnbbdfehaaGreatDoor
open Go.RowKit Go.Shelf Go.Lib Go.Sort
set_option linter.unusedVariables false
attribute [local go_sem ↓] shr_32_1 shl_32_1 shr_32_2 shl_32_2 shr_32_3 shl_32_3 shr_32_4 shl_32_4 shr_32_5 shl_32_5 shr_32_6 shl_32_6 shr_32_7 shl_32_7 shr_32_8 shl_32_8 shr_32_9 shl_32_9 shr_32_10 shl_32_10 shr_32_11 shl_32_11 shr_32_12 shl_32_12 shr_32_13 shl_32_13 shr_32_14 shl_32_14 shr_32_15 shl_32_15 shr_32_16 shl_32_16 shr_32_17 shl_32_17 shr_32_18 shl_32_18 shr_32_19 shl_32_19 shr_32_20 shl_32_20 shr_32_21 shl_32_21 shr_32_22 shl_32_22 shr_32_23 shl_32_23 shr_32_24 shl_32_24 shr_32_25 shl_32_25 shr_32_26 shl_32_26 shr_32_27 shl_32_27 shr_32_28 shl_32_28 shr_32_29 shl_32_29 shr_32_30 shl_32_30 shr_32_31 shl_32_31 shr_64_3 shl_64_3 shr_64_7 shl_64_7 shr_64_8 shl_64_8 shr_64_16 shl_64_16 shr_64_24 shl_64_24 shr_64_32 shl_64_32 shr_64_40 shl_64_40 shr_64_48 shl_64_48 shr_64_56 shl_64_56
attribute [local go_sem] add_u32 add_u64 and_u8 or_u8 xor_u8 and_u32 or_u32 xor_u32 and_u64 or_u64 xor_u64 conv_32_8 conv_64_8 conv_64_32 conv_8_32 conv_8_64 conv_32_64

/-! ### The papers' words: turned by division -/
theorem rot_nat (x : UInt32) (k : Nat) (h0 : 0 < k) (h : k < 32) : (x >>> UInt32.ofNat k ||| x <<< UInt32.ofNat (32 - k)).toNat = x.toNat / 2 ^ k + 2 ^ (32 - k) * (x.toNat % 2 ^ k) := by
  have e1 : (UInt32.ofNat k).toNat = k := UInt32.toNat_ofNat_of_lt' (by show k < 4294967296; omega)
  have e2 : (UInt32.ofNat (32 - k)).toNat = 32 - k := UInt32.toNat_ofNat_of_lt' (by show 32 - k < 4294967296; omega)
  rw [UInt32.toNat_or, UInt32.toNat_shiftRight, UInt32.toNat_shiftLeft, e1, e2, Nat.mod_eq_of_lt h, Nat.mod_eq_of_lt (by omega : 32 - k < 32), Nat.shiftRight_eq_div_pow, Nat.shiftLeft_eq]
  have hx : x.toNat < 2 ^ 32 := x.toNat_lt
  have hp : 2 ^ 32 = 2 ^ k * 2 ^ (32 - k) := by rw [← Nat.pow_add]; congr 1; omega
  have hm : x.toNat * 2 ^ (32 - k) % 2 ^ 32 = 2 ^ (32 - k) * (x.toNat % 2 ^ k) := by
    rw [hp, Nat.mul_mod_mul_right, Nat.mul_comm]
  have hd : x.toNat / 2 ^ k < 2 ^ (32 - k) := by
    rw [Nat.div_lt_iff_lt_mul (Nat.two_pow_pos k), Nat.mul_comm, ← hp]; exact hx
  rw [hm, Nat.or_comm, ← Nat.two_pow_add_eq_or_of_lt hd, Nat.add_comm]
theorem rturn_2 (x : UInt32) (w : World) :
    Calls Tryz.prog 116 #[.int .u32 (n32 x), .int .u64 2] w fun e w' => e = .returned (.int .u32 (n32 (rotr x 2 30))) ∧ w = w' := by
  have hr : (rotr x 2 30).toNat = x.toNat / 4 + 1073741824 * (x.toNat % 4) := rot_nat x 2 (by decide) (by decide)
  have hx : x.toNat < 4294967296 := x.toNat_lt
  have hq : ((n32 x).tdiv 4 % 4294967296 + n32 x * 1073741824 % 4294967296) % 4294967296 = n32 (rotr x 2 30) := by
    unfold n32
    rw [Int.tdiv_eq_ediv_of_nonneg (by omega)]
    omega
  go_enter Tryz.func116, Tryz.ntmps116
  go_wp2_with fail
  go_ret
  exact ⟨congrArg (fun z => Ending.returned (.int .u32 z)) hq, rfl⟩
theorem rturn_6 (x : UInt32) (w : World) :
    Calls Tryz.prog 116 #[.int .u32 (n32 x), .int .u64 6] w fun e w' => e = .returned (.int .u32 (n32 (rotr x 6 26))) ∧ w = w' := by
  have hr : (rotr x 6 26).toNat = x.toNat / 64 + 67108864 * (x.toNat % 64) := rot_nat x 6 (by decide) (by decide)
  have hx : x.toNat < 4294967296 := x.toNat_lt
  have hq : ((n32 x).tdiv 64 % 4294967296 + n32 x * 67108864 % 4294967296) % 4294967296 = n32 (rotr x 6 26) := by
    unfold n32
    rw [Int.tdiv_eq_ediv_of_nonneg (by omega)]
    omega
  go_enter Tryz.func116, Tryz.ntmps116
  go_wp2_with fail
  go_ret
  exact ⟨congrArg (fun z => Ending.returned (.int .u32 z)) hq, rfl⟩
theorem rturn_7 (x : UInt32) (w : World) :
    Calls Tryz.prog 116 #[.int .u32 (n32 x), .int .u64 7] w fun e w' => e = .returned (.int .u32 (n32 (rotr x 7 25))) ∧ w = w' := by
  have hr : (rotr x 7 25).toNat = x.toNat / 128 + 33554432 * (x.toNat % 128) := rot_nat x 7 (by decide) (by decide)
  have hx : x.toNat < 4294967296 := x.toNat_lt
  have hq : ((n32 x).tdiv 128 % 4294967296 + n32 x * 33554432 % 4294967296) % 4294967296 = n32 (rotr x 7 25) := by
    unfold n32
    rw [Int.tdiv_eq_ediv_of_nonneg (by omega)]
    omega
  go_enter Tryz.func116, Tryz.ntmps116
  go_wp2_with fail
  go_ret
  exact ⟨congrArg (fun z => Ending.returned (.int .u32 z)) hq, rfl⟩
theorem rturn_11 (x : UInt32) (w : World) :
    Calls Tryz.prog 116 #[.int .u32 (n32 x), .int .u64 11] w fun e w' => e = .returned (.int .u32 (n32 (rotr x 11 21))) ∧ w = w' := by
  have hr : (rotr x 11 21).toNat = x.toNat / 2048 + 2097152 * (x.toNat % 2048) := rot_nat x 11 (by decide) (by decide)
  have hx : x.toNat < 4294967296 := x.toNat_lt
  have hq : ((n32 x).tdiv 2048 % 4294967296 + n32 x * 2097152 % 4294967296) % 4294967296 = n32 (rotr x 11 21) := by
    unfold n32
    rw [Int.tdiv_eq_ediv_of_nonneg (by omega)]
    omega
  go_enter Tryz.func116, Tryz.ntmps116
  go_wp2_with fail
  go_ret
  exact ⟨congrArg (fun z => Ending.returned (.int .u32 z)) hq, rfl⟩
theorem rturn_13 (x : UInt32) (w : World) :
    Calls Tryz.prog 116 #[.int .u32 (n32 x), .int .u64 13] w fun e w' => e = .returned (.int .u32 (n32 (rotr x 13 19))) ∧ w = w' := by
  have hr : (rotr x 13 19).toNat = x.toNat / 8192 + 524288 * (x.toNat % 8192) := rot_nat x 13 (by decide) (by decide)
  have hx : x.toNat < 4294967296 := x.toNat_lt
  have hq : ((n32 x).tdiv 8192 % 4294967296 + n32 x * 524288 % 4294967296) % 4294967296 = n32 (rotr x 13 19) := by
    unfold n32
    rw [Int.tdiv_eq_ediv_of_nonneg (by omega)]
    omega
  go_enter Tryz.func116, Tryz.ntmps116
  go_wp2_with fail
  go_ret
  exact ⟨congrArg (fun z => Ending.returned (.int .u32 z)) hq, rfl⟩
theorem rturn_17 (x : UInt32) (w : World) :
    Calls Tryz.prog 116 #[.int .u32 (n32 x), .int .u64 17] w fun e w' => e = .returned (.int .u32 (n32 (rotr x 17 15))) ∧ w = w' := by
  have hr : (rotr x 17 15).toNat = x.toNat / 131072 + 32768 * (x.toNat % 131072) := rot_nat x 17 (by decide) (by decide)
  have hx : x.toNat < 4294967296 := x.toNat_lt
  have hq : ((n32 x).tdiv 131072 % 4294967296 + n32 x * 32768 % 4294967296) % 4294967296 = n32 (rotr x 17 15) := by
    unfold n32
    rw [Int.tdiv_eq_ediv_of_nonneg (by omega)]
    omega
  go_enter Tryz.func116, Tryz.ntmps116
  go_wp2_with fail
  go_ret
  exact ⟨congrArg (fun z => Ending.returned (.int .u32 z)) hq, rfl⟩
theorem rturn_18 (x : UInt32) (w : World) :
    Calls Tryz.prog 116 #[.int .u32 (n32 x), .int .u64 18] w fun e w' => e = .returned (.int .u32 (n32 (rotr x 18 14))) ∧ w = w' := by
  have hr : (rotr x 18 14).toNat = x.toNat / 262144 + 16384 * (x.toNat % 262144) := rot_nat x 18 (by decide) (by decide)
  have hx : x.toNat < 4294967296 := x.toNat_lt
  have hq : ((n32 x).tdiv 262144 % 4294967296 + n32 x * 16384 % 4294967296) % 4294967296 = n32 (rotr x 18 14) := by
    unfold n32
    rw [Int.tdiv_eq_ediv_of_nonneg (by omega)]
    omega
  go_enter Tryz.func116, Tryz.ntmps116
  go_wp2_with fail
  go_ret
  exact ⟨congrArg (fun z => Ending.returned (.int .u32 z)) hq, rfl⟩
theorem rturn_19 (x : UInt32) (w : World) :
    Calls Tryz.prog 116 #[.int .u32 (n32 x), .int .u64 19] w fun e w' => e = .returned (.int .u32 (n32 (rotr x 19 13))) ∧ w = w' := by
  have hr : (rotr x 19 13).toNat = x.toNat / 524288 + 8192 * (x.toNat % 524288) := rot_nat x 19 (by decide) (by decide)
  have hx : x.toNat < 4294967296 := x.toNat_lt
  have hq : ((n32 x).tdiv 524288 % 4294967296 + n32 x * 8192 % 4294967296) % 4294967296 = n32 (rotr x 19 13) := by
    unfold n32
    rw [Int.tdiv_eq_ediv_of_nonneg (by omega)]
    omega
  go_enter Tryz.func116, Tryz.ntmps116
  go_wp2_with fail
  go_ret
  exact ⟨congrArg (fun z => Ending.returned (.int .u32 z)) hq, rfl⟩
theorem rturn_22 (x : UInt32) (w : World) :
    Calls Tryz.prog 116 #[.int .u32 (n32 x), .int .u64 22] w fun e w' => e = .returned (.int .u32 (n32 (rotr x 22 10))) ∧ w = w' := by
  have hr : (rotr x 22 10).toNat = x.toNat / 4194304 + 1024 * (x.toNat % 4194304) := rot_nat x 22 (by decide) (by decide)
  have hx : x.toNat < 4294967296 := x.toNat_lt
  have hq : ((n32 x).tdiv 4194304 % 4294967296 + n32 x * 1024 % 4294967296) % 4294967296 = n32 (rotr x 22 10) := by
    unfold n32
    rw [Int.tdiv_eq_ediv_of_nonneg (by omega)]
    omega
  go_enter Tryz.func116, Tryz.ntmps116
  go_wp2_with fail
  go_ret
  exact ⟨congrArg (fun z => Ending.returned (.int .u32 z)) hq, rfl⟩
theorem rturn_25 (x : UInt32) (w : World) :
    Calls Tryz.prog 116 #[.int .u32 (n32 x), .int .u64 25] w fun e w' => e = .returned (.int .u32 (n32 (rotr x 25 7))) ∧ w = w' := by
  have hr : (rotr x 25 7).toNat = x.toNat / 33554432 + 128 * (x.toNat % 33554432) := rot_nat x 25 (by decide) (by decide)
  have hx : x.toNat < 4294967296 := x.toNat_lt
  have hq : ((n32 x).tdiv 33554432 % 4294967296 + n32 x * 128 % 4294967296) % 4294967296 = n32 (rotr x 25 7) := by
    unfold n32
    rw [Int.tdiv_eq_ediv_of_nonneg (by omega)]
    omega
  go_enter Tryz.func116, Tryz.ntmps116
  go_wp2_with fail
  go_ret
  exact ⟨congrArg (fun z => Ending.returned (.int .u32 z)) hq, rfl⟩

end Go.Proofs.YtimpjlnbbdfehaaGreatDoor
namespace Go.Proofs.YtimpjlnbbdfehaaGreatDoor
open Go.RowKit Go.Shelf Go.Lib Go.Sort
set_option linter.unusedVariables false
attribute [local go_sem ↓] shr_32_1 shl_32_1 shr_32_2 shl_32_2 shr_32_3 shl_32_3 shr_32_4 shl_32_4 shr_32_5 shl_32_5 shr_32_6 shl_32_6 shr_32_7 shl_32_7 shr_32_8 shl_32_8 shr_32_9 shl_32_9 shr_32_10 shl_32_10 shr_32_11 shl_32_11 shr_32_12 shl_32_12 shr_32_13 shl_32_13 shr_32_14 shl_32_14 shr_32_15 shl_32_15 shr_32_16 shl_32_16 shr_32_17 shl_32_17 shr_32_18 shl_32_18 shr_32_19 shl_32_19 shr_32_20 shl_32_20 shr_32_21 shl_32_21 shr_32_22 shl_32_22 shr_32_23 shl_32_23 shr_32_24 shl_32_24 shr_32_25 shl_32_25 shr_32_26 shl_32_26 shr_32_27 shl_32_27 shr_32_28 shl_32_28 shr_32_29 shl_32_29 shr_32_30 shl_32_30 shr_32_31 shl_32_31 shr_64_3 shl_64_3 shr_64_7 shl_64_7 shr_64_8 shl_64_8 shr_64_16 shl_64_16 shr_64_24 shl_64_24 shr_64_32 shl_64_32 shr_64_40 shl_64_40 shr_64_48 shl_64_48 shr_64_56 shl_64_56
attribute [local go_sem] add_u32 add_u64 and_u8 or_u8 xor_u8 and_u32 or_u32 xor_u32 and_u64 or_u64 xor_u64 conv_32_8 conv_64_8 conv_64_32 conv_8_32 conv_8_64 conv_32_64

theorem rleft_16 (x : UInt32) (w : World) :
    Calls Tryz.prog 217 #[.int .u32 (n32 x), .int .u64 16] w fun e w' => e = .returned (.int .u32 (n32 (rotl x 16 16))) ∧ w = w' := by
  have hr : (rotl x 16 16).toNat = x.toNat / 65536 + 65536 * (x.toNat % 65536) := by
    have := rot_nat x 16 (by decide) (by decide)
    unfold rotl
    rw [UInt32.or_comm]
    exact this
  have hx : x.toNat < 4294967296 := x.toNat_lt
  have hq : (n32 x * 65536 % 4294967296 + (n32 x).tdiv 65536 % 4294967296) % 4294967296 = n32 (rotl x 16 16) := by
    unfold n32
    rw [Int.tdiv_eq_ediv_of_nonneg (by omega)]
    omega
  go_enter Tryz.func217, Tryz.ntmps217
  go_wp2_with fail
  go_ret
  exact ⟨congrArg (fun z => Ending.returned (.int .u32 z)) hq, rfl⟩
theorem rleft_12 (x : UInt32) (w : World) :
    Calls Tryz.prog 217 #[.int .u32 (n32 x), .int .u64 12] w fun e w' => e = .returned (.int .u32 (n32 (rotl x 12 20))) ∧ w = w' := by
  have hr : (rotl x 12 20).toNat = x.toNat / 1048576 + 4096 * (x.toNat % 1048576) := by
    have := rot_nat x 20 (by decide) (by decide)
    unfold rotl
    rw [UInt32.or_comm]
    exact this
  have hx : x.toNat < 4294967296 := x.toNat_lt
  have hq : (n32 x * 4096 % 4294967296 + (n32 x).tdiv 1048576 % 4294967296) % 4294967296 = n32 (rotl x 12 20) := by
    unfold n32
    rw [Int.tdiv_eq_ediv_of_nonneg (by omega)]
    omega
  go_enter Tryz.func217, Tryz.ntmps217
  go_wp2_with fail
  go_ret
  exact ⟨congrArg (fun z => Ending.returned (.int .u32 z)) hq, rfl⟩
theorem rleft_8 (x : UInt32) (w : World) :
    Calls Tryz.prog 217 #[.int .u32 (n32 x), .int .u64 8] w fun e w' => e = .returned (.int .u32 (n32 (rotl x 8 24))) ∧ w = w' := by
  have hr : (rotl x 8 24).toNat = x.toNat / 16777216 + 256 * (x.toNat % 16777216) := by
    have := rot_nat x 24 (by decide) (by decide)
    unfold rotl
    rw [UInt32.or_comm]
    exact this
  have hx : x.toNat < 4294967296 := x.toNat_lt
  have hq : (n32 x * 256 % 4294967296 + (n32 x).tdiv 16777216 % 4294967296) % 4294967296 = n32 (rotl x 8 24) := by
    unfold n32
    rw [Int.tdiv_eq_ediv_of_nonneg (by omega)]
    omega
  go_enter Tryz.func217, Tryz.ntmps217
  go_wp2_with fail
  go_ret
  exact ⟨congrArg (fun z => Ending.returned (.int .u32 z)) hq, rfl⟩
theorem rleft_7 (x : UInt32) (w : World) :
    Calls Tryz.prog 217 #[.int .u32 (n32 x), .int .u64 7] w fun e w' => e = .returned (.int .u32 (n32 (rotl x 7 25))) ∧ w = w' := by
  have hr : (rotl x 7 25).toNat = x.toNat / 33554432 + 128 * (x.toNat % 33554432) := by
    have := rot_nat x 25 (by decide) (by decide)
    unfold rotl
    rw [UInt32.or_comm]
    exact this
  have hx : x.toNat < 4294967296 := x.toNat_lt
  have hq : (n32 x * 128 % 4294967296 + (n32 x).tdiv 33554432 % 4294967296) % 4294967296 = n32 (rotl x 7 25) := by
    unfold n32
    rw [Int.tdiv_eq_ediv_of_nonneg (by omega)]
    omega
  go_enter Tryz.func217, Tryz.ntmps217
  go_wp2_with fail
  go_ret
  exact ⟨congrArg (fun z => Ending.returned (.int .u32 z)) hq, rfl⟩
theorem or_shl (a b : UInt32) (n : Nat) (hn : n < 32) (ha : a.toNat < 2 ^ n) (hb : b.toNat * 2 ^ n < 2 ^ 32) : (a ||| b <<< UInt32.ofNat n).toNat = a.toNat + 2 ^ n * b.toNat := by
  have e1 : (UInt32.ofNat n).toNat = n := UInt32.toNat_ofNat_of_lt' (by show n < 4294967296; omega)
  rw [UInt32.toNat_or, UInt32.toNat_shiftLeft, e1, Nat.mod_eq_of_lt hn, Nat.shiftLeft_eq, Nat.mod_eq_of_lt hb, Nat.or_comm, Nat.mul_comm, ← Nat.two_pow_add_eq_or_of_lt ha, Nat.add_comm]
theorem le4_nat (s : ByteArray) (i : Nat) : (le4 s i).toNat = (gb s i).toNat + 256 * (gb s (i + 1)).toNat + 65536 * (gb s (i + 2)).toNat + 16777216 * (gb s (i + 3)).toNat := by
  have h0 : (up32 (gb s i)).toNat = (gb s i).toNat := by rfl
  have h1 : (up32 (gb s (i + 1))).toNat = (gb s (i + 1)).toNat := by rfl
  have h2 : (up32 (gb s (i + 2))).toNat = (gb s (i + 2)).toNat := by rfl
  have h3 : (up32 (gb s (i + 3))).toNat = (gb s (i + 3)).toNat := by rfl
  have b0 := (gb s i).toNat_lt
  have b1 := (gb s (i + 1)).toNat_lt
  have b2 := (gb s (i + 2)).toNat_lt
  have b3 := (gb s (i + 3)).toNat_lt
  have e1 := or_shl (up32 (gb s i)) (up32 (gb s (i + 1))) 8 (by decide) (by omega) (by omega)
  have e2 := or_shl (up32 (gb s i) ||| up32 (gb s (i + 1)) <<< UInt32.ofNat 8) (up32 (gb s (i + 2))) 16 (by decide) (by omega) (by omega)
  have e3 := or_shl (up32 (gb s i) ||| up32 (gb s (i + 1)) <<< UInt32.ofNat 8 ||| up32 (gb s (i + 2)) <<< UInt32.ofNat 16) (up32 (gb s (i + 3))) 24 (by decide) (by omega) (by omega)
  show (up32 (gb s i) ||| up32 (gb s (i + 1)) <<< UInt32.ofNat 8 ||| up32 (gb s (i + 2)) <<< UInt32.ofNat 16 ||| up32 (gb s (i + 3)) <<< UInt32.ofNat 24).toNat = _
  omega

end Go.Proofs.YtimpjlnbbdfehaaGreatDoor
namespace Go.Proofs.YtimpjlnbbdfehaaGreatDoor
open Go.RowKit Go.Shelf Go.Lib Go.Sort
set_option linter.unusedVariables false
attribute [local go_sem ↓] shr_32_1 shl_32_1 shr_32_2 shl_32_2 shr_32_3 shl_32_3 shr_32_4 shl_32_4 shr_32_5 shl_32_5 shr_32_6 shl_32_6 shr_32_7 shl_32_7 shr_32_8 shl_32_8 shr_32_9 shl_32_9 shr_32_10 shl_32_10 shr_32_11 shl_32_11 shr_32_12 shl_32_12 shr_32_13 shl_32_13 shr_32_14 shl_32_14 shr_32_15 shl_32_15 shr_32_16 shl_32_16 shr_32_17 shl_32_17 shr_32_18 shl_32_18 shr_32_19 shl_32_19 shr_32_20 shl_32_20 shr_32_21 shl_32_21 shr_32_22 shl_32_22 shr_32_23 shl_32_23 shr_32_24 shl_32_24 shr_32_25 shl_32_25 shr_32_26 shl_32_26 shr_32_27 shl_32_27 shr_32_28 shl_32_28 shr_32_29 shl_32_29 shr_32_30 shl_32_30 shr_32_31 shl_32_31 shr_64_3 shl_64_3 shr_64_7 shl_64_7 shr_64_8 shl_64_8 shr_64_16 shl_64_16 shr_64_24 shl_64_24 shr_64_32 shl_64_32 shr_64_40 shl_64_40 shr_64_48 shl_64_48 shr_64_56 shl_64_56
attribute [local go_sem] add_u32 add_u64 and_u8 or_u8 xor_u8 and_u32 or_u32 xor_u32 and_u64 or_u64 xor_u64 conv_32_8 conv_64_8 conv_64_32 conv_8_32 conv_8_64 conv_32_64

set_option maxHeartbeats 4000000 in
theorem rword_ok (s : ByteArray) (i : Nat) (hi : i + 4 ≤ s.size) (hs : s.size ≤ 1000000) (w : World) :
    Calls Tryz.prog 196 #[.string s, .int .i64 (i : Int)] w fun e w' => e = .returned (.int .u32 (n32 (le4 s i))) ∧ w.drewN 1 = w' := by
  have h0 := fun w => ix_str s i (i : Int) rfl (by omega) w
  have h1 := fun w => ix_str s (i + 1) ((i : Int) + 1) (by omega) (by omega) w
  have h2 := fun w => ix_str s (i + 2) ((i : Int) + 2) (by omega) (by omega) w
  have h3 := fun w => ix_str s (i + 3) ((i : Int) + 3) (by omega) (by omega) w
  have w1 : IntKind.i64.wrap ((i : Int) + 1) = (i : Int) + 1 := wrap_in _ (by omega) (by omega)
  have w2 : IntKind.i64.wrap ((i : Int) + 2) = (i : Int) + 2 := wrap_in _ (by omega) (by omega)
  have w3 : IntKind.i64.wrap ((i : Int) + 3) = (i : Int) + 3 := wrap_in _ (by omega) (by omega)
  have w1' : wrap64 ((i : Int) + 1) = (i : Int) + 1 := w64_small _ (by omega) (by omega)
  have w2' : wrap64 ((i : Int) + 2) = (i : Int) + 2 := w64_small _ (by omega) (by omega)
  have w3' : wrap64 ((i : Int) + 3) = (i : Int) + 3 := w64_small _ (by omega) (by omega)
  clear hi hs
  have hN := le4_nat s i
  have HN := Lib.hid hN
  clear hN
  generalize gb s i = a at *
  generalize gb s (i + 1) = b at *
  generalize gb s (i + 2) = c at *
  generalize gb s (i + 3) = d at *
  generalize le4 s i = z at *
  have hq : IntKind.u32.wrap (IntKind.u32.wrap (IntKind.u32.wrap (n32 (up32 a) + IntKind.u32.wrap (n32 (up32 b) * 256)) + IntKind.u32.wrap (n32 (up32 c) * 65536)) + IntKind.u32.wrap (n32 (up32 d) * 16777216)) = n32 z := by
    have hz := HN.out
    have ea : (up32 a).toNat = a.toNat := rfl
    have eb : (up32 b).toNat = b.toNat := rfl
    have ec : (up32 c).toNat = c.toNat := rfl
    have ed : (up32 d).toNat = d.toNat := rfl
    have b0 := a.toNat_lt
    have b1 := b.toNat_lt
    have b2 := c.toNat_lt
    have b3 := d.toNat_lt
    simp only [wrap_u32]
    unfold n32
    rw [ea, eb, ec, ed]
    generalize a.toNat = a at *
    generalize b.toNat = b at *
    generalize c.toNat = c at *
    generalize d.toNat = d at *
    generalize z.toNat = z at *
    clear h0 h1 h2 h3
    omega
  have HQ := Lib.hid hq
  clear hq HN
  go_enter Tryz.func196, Tryz.ntmps196
  go_wp2_with fail
  refine wp_region_plan (fun _ => True) 25 [(true, 0), (true, 1), (true, 2), (true, 3), (true, 4), (true, 5), (true, 6), (true, 7), (true, 8), (true, 9), (true, 10), (true, 11), (true, 12), (true, 13), (true, 14), (true, 15), (true, 16), (true, 17), (true, 18), (true, 19), (true, 20), (true, 21), (true, 22), (true, 23), (true, 24)] (by kernel_rfl) (by kernel_rfl) trivial ?_
  simp only [List.map_cons, List.map_nil, List.getD_cons_zero, List.getD_cons_succ, List.drop_succ_cons, List.drop_zero]
  (refine plan_take (v := ?_) rfl ?_ ?_; rotate_left; (intro wS hSw; (try dsimp only at hSw); go_simp; try with_reducible rfl); simp only [Act.put, List.setIfInBounds_toArray, List.set_cons_zero, List.set_cons_succ])
  (refine plan_take (v := ?_) rfl ?_ ?_; rotate_left; (intro wS hSw; (try dsimp only at hSw); go_simp; try with_reducible rfl); simp only [Act.put, List.setIfInBounds_toArray, List.set_cons_zero, List.set_cons_succ])
  (refine plan_take (v := ?_) rfl ?_ ?_; rotate_left; (intro wS hSw; (try dsimp only at hSw); go_simp; try with_reducible rfl); simp only [Act.put, List.setIfInBounds_toArray, List.set_cons_zero, List.set_cons_succ])
  (refine plan_take (v := ?_) rfl ?_ ?_; rotate_left; (intro wS hSw; (try dsimp only at hSw); go_simp; try with_reducible rfl); simp only [Act.put, List.setIfInBounds_toArray, List.set_cons_zero, List.set_cons_succ])
  (refine plan_take (v := ?_) rfl ?_ ?_; rotate_left; (intro wS hSw; (try dsimp only at hSw); go_simp; try with_reducible rfl); simp only [Act.put, List.setIfInBounds_toArray, List.set_cons_zero, List.set_cons_succ])
  (refine plan_take (v := ?_) rfl ?_ ?_; rotate_left; (intro wS hSw; (try dsimp only at hSw); go_simp; try with_reducible rfl); simp only [Act.put, List.setIfInBounds_toArray, List.set_cons_zero, List.set_cons_succ])
  (refine plan_take (v := ?_) rfl ?_ ?_; rotate_left; (intro wS hSw; (try dsimp only at hSw); go_simp; try with_reducible rfl); simp only [Act.put, List.setIfInBounds_toArray, List.set_cons_zero, List.set_cons_succ])
  (refine plan_take (v := ?_) rfl ?_ ?_; rotate_left; (intro wS hSw; (try dsimp only at hSw); go_simp; try with_reducible rfl); simp only [Act.put, List.setIfInBounds_toArray, List.set_cons_zero, List.set_cons_succ])
  (refine plan_take (v := ?_) rfl ?_ ?_; rotate_left; (intro wS hSw; (try dsimp only at hSw); go_simp; try with_reducible rfl); simp only [Act.put, List.setIfInBounds_toArray, List.set_cons_zero, List.set_cons_succ])
  (refine plan_take (v := ?_) rfl ?_ ?_; rotate_left; (intro wS hSw; (try dsimp only at hSw); go_simp; try with_reducible rfl); simp only [Act.put, List.setIfInBounds_toArray, List.set_cons_zero, List.set_cons_succ])
  (refine plan_take (v := ?_) rfl ?_ ?_; rotate_left; (intro wS hSw; (try dsimp only at hSw); go_simp; try with_reducible rfl); simp only [Act.put, List.setIfInBounds_toArray, List.set_cons_zero, List.set_cons_succ])
  (refine plan_take (v := ?_) rfl ?_ ?_; rotate_left; (intro wS hSw; (try dsimp only at hSw); go_simp; try with_reducible rfl); simp only [Act.put, List.setIfInBounds_toArray, List.set_cons_zero, List.set_cons_succ])
  (refine plan_take (v := ?_) rfl ?_ ?_; rotate_left; (intro wS hSw; (try dsimp only at hSw); go_simp; try with_reducible rfl); simp only [Act.put, List.setIfInBounds_toArray, List.set_cons_zero, List.set_cons_succ])
  (refine plan_take (v := ?_) rfl ?_ ?_; rotate_left; (intro wS hSw; (try dsimp only at hSw); go_simp; try with_reducible rfl); simp only [Act.put, List.setIfInBounds_toArray, List.set_cons_zero, List.set_cons_succ])
  (refine plan_take (v := ?_) rfl ?_ ?_; rotate_left; (intro wS hSw; (try dsimp only at hSw); go_simp; try with_reducible rfl); simp only [Act.put, List.setIfInBounds_toArray, List.set_cons_zero, List.set_cons_succ])
  (refine plan_take (v := ?_) rfl ?_ ?_; rotate_left; (intro wS hSw; (try dsimp only at hSw); go_simp; try with_reducible rfl); simp only [Act.put, List.setIfInBounds_toArray, List.set_cons_zero, List.set_cons_succ])
  (refine plan_take (v := ?_) rfl ?_ ?_; rotate_left; (intro wS hSw; (try dsimp only at hSw); go_simp; try with_reducible rfl); simp only [Act.put, List.setIfInBounds_toArray, List.set_cons_zero, List.set_cons_succ])
  (refine plan_take (v := ?_) rfl ?_ ?_; rotate_left; (intro wS hSw; (try dsimp only at hSw); go_simp; try with_reducible rfl); simp only [Act.put, List.setIfInBounds_toArray, List.set_cons_zero, List.set_cons_succ])
  (refine plan_take (v := ?_) rfl ?_ ?_; rotate_left; (intro wS hSw; (try dsimp only at hSw); go_simp; try with_reducible rfl); simp only [Act.put, List.setIfInBounds_toArray, List.set_cons_zero, List.set_cons_succ])
  (refine plan_take (v := ?_) rfl ?_ ?_; rotate_left; (intro wS hSw; (try dsimp only at hSw); go_simp; try with_reducible rfl); simp only [Act.put, List.setIfInBounds_toArray, List.set_cons_zero, List.set_cons_succ])
  (refine plan_take (v := ?_) rfl ?_ ?_; rotate_left; (intro wS hSw; (try dsimp only at hSw); go_simp; try with_reducible rfl); simp only [Act.put, List.setIfInBounds_toArray, List.set_cons_zero, List.set_cons_succ])
  (refine plan_take (v := ?_) rfl ?_ ?_; rotate_left; (intro wS hSw; (try dsimp only at hSw); go_simp; try with_reducible rfl); simp only [Act.put, List.setIfInBounds_toArray, List.set_cons_zero, List.set_cons_succ])
  (refine plan_take (v := ?_) rfl ?_ ?_; rotate_left; (intro wS hSw; (try dsimp only at hSw); go_simp; try with_reducible rfl); simp only [Act.put, List.setIfInBounds_toArray, List.set_cons_zero, List.set_cons_succ])
  (refine plan_take (v := ?_) rfl ?_ ?_; rotate_left; (intro wS hSw; (try dsimp only at hSw); go_simp; try with_reducible rfl); simp only [Act.put, List.setIfInBounds_toArray, List.set_cons_zero, List.set_cons_succ])
  (refine plan_take (v := ?_) rfl ?_ ?_; rotate_left; (intro wS hSw; (try dsimp only at hSw); go_simp; try with_reducible rfl); simp only [Act.put, List.setIfInBounds_toArray, List.set_cons_zero, List.set_cons_succ])
  refine plan_nil ?_
  go_wp2_with fail
  refine NoPanic.normal ?_
  go_wp2_with fail
  go_ret
  exact ⟨congrArg (fun z => Ending.returned (.int .u32 z)) HQ.out, rfl⟩

end Go.Proofs.YtimpjlnbbdfehaaGreatDoor
namespace Go.Proofs.YtimpjlnbbdfehaaGreatDoor
open Go.RowKit Go.Shelf Go.Lib Go.Sort
set_option linter.unusedVariables false
attribute [local go_sem ↓] shr_32_1 shl_32_1 shr_32_2 shl_32_2 shr_32_3 shl_32_3 shr_32_4 shl_32_4 shr_32_5 shl_32_5 shr_32_6 shl_32_6 shr_32_7 shl_32_7 shr_32_8 shl_32_8 shr_32_9 shl_32_9 shr_32_10 shl_32_10 shr_32_11 shl_32_11 shr_32_12 shl_32_12 shr_32_13 shl_32_13 shr_32_14 shl_32_14 shr_32_15 shl_32_15 shr_32_16 shl_32_16 shr_32_17 shl_32_17 shr_32_18 shl_32_18 shr_32_19 shl_32_19 shr_32_20 shl_32_20 shr_32_21 shl_32_21 shr_32_22 shl_32_22 shr_32_23 shl_32_23 shr_32_24 shl_32_24 shr_32_25 shl_32_25 shr_32_26 shl_32_26 shr_32_27 shl_32_27 shr_32_28 shl_32_28 shr_32_29 shl_32_29 shr_32_30 shl_32_30 shr_32_31 shl_32_31 shr_64_3 shl_64_3 shr_64_7 shl_64_7 shr_64_8 shl_64_8 shr_64_16 shl_64_16 shr_64_24 shl_64_24 shr_64_32 shl_64_32 shr_64_40 shl_64_40 shr_64_48 shl_64_48 shr_64_56 shl_64_56
attribute [local go_sem] add_u32 add_u64 and_u8 or_u8 xor_u8 and_u32 or_u32 xor_u32 and_u64 or_u64 xor_u64 conv_32_8 conv_64_8 conv_64_32 conv_8_32 conv_8_64 conv_32_64

/-- The low bytes of a number, the highest of them first. -/
def hiN (n : Nat) : Nat → ByteArray
  | 0 => ⟨#[]⟩
  | j + 1 => ⟨#[UInt8.ofNat (n / 256 ^ j % 256)]⟩ ++ hiN n j
theorem hiN_size (n : Nat) : ∀ j, (hiN n j).size = j
  | 0 => rfl
  | j + 1 => by
    unfold hiN
    rw [ByteArray.size_append, hiN_size n j]
    show 1 + j = j + 1
    omega
theorem row_onel (w : World) (x : UInt8) : ∀ j u, (bv [x])[j]? = some u → (w.alloc (.cells #[.int .u8 (n8 x)] 5)).cell? ((⟨w.heap.size, 0, none⟩ : Addr).add j) = some u := by
  obtain ⟨ad, e, h⟩ := row_cells w [.int .u8 (n8 x)] 5 (by simp)
  injection e with e
  subst e
  exact h
theorem conv_byte (x : UInt8) (w : World) : (convert 57 9 (.slice (some ⟨w.heap.size, 0, none⟩) 1 1)).run Tryz.prog (w.alloc (.cells #[.int .u8 (n8 x)] 5)) = .ok (.string ⟨#[x]⟩) (w.alloc (.cells #[.int .u8 (n8 x)] 5)) := by
  have := conv_cells (w := w.alloc (.cells #[.int .u8 (n8 x)] 5)) (a := ⟨w.heap.size, 0, none⟩) (cap := 1) [x] (row_onel w x)
  exact this
set_option maxHeartbeats 4000000 in
set_option maxRecDepth 100000 in
theorem rhigh_ok (n : Nat) (hn : n < 18446744073709551616) (k : Nat) (hk : k ≤ 8) (w : World) :
    Calls Tryz.prog 74 #[.int .u64 (n : Int), .int .i64 (k : Int)] w fun e w' => e = .returned (.string (hiN n k)) ∧ Below w.heap.size w w' := by
  go_enter Tryz.func74, Tryz.ntmps74
  go_wp2_with fail
  go_loopg [0, 5, 6] k (fun q v0 v5 v6 wr => ∃ (j m : Nat), q + j = k ∧ m = n / 256 ^ j ∧ v0 = .int .u64 (m : Int) ∧ v5 = .string (hiN n j) ∧ v6 = .int .i64 (j : Int) ∧ Below w.heap.size w wr)
  case atStart => exact ⟨0, n, rfl, by simp, rfl, rfl, rfl, Below.refl _ _⟩
  case round =>
    obtain ⟨j, m, hj, hm, rfl, rfl, rfl, hb⟩ := hrel
    have HB := Lib.hid hb
    have HM := Lib.hid hm
    clear hb hm
    by_cases hlt : j < k
    · have hd : decide ((j : Int) < (k : Int)) = true := decide_eq_true (by omega)
      have hd2 : decide (j < k) = true := decide_eq_true hlt
      have hd8 : decide ((j : Int) < 8) = true := decide_eq_true (by omega)
      have hd8' : decide (j < 8) = true := decide_eq_true (by omega)
      have hml : m < 18446744073709551616 := by rw [HM.out]; exact Nat.lt_of_le_of_lt (Nat.div_le_self _ _) hn
      have hx : n8 (UInt8.ofNat (m % 256)) = (m : Int) % 256 := by
        unfold n8
        rw [UInt8.toNat_ofNat_of_lt' (by show _ < 256; omega)]
        omega
      have hcv := fun W => conv_byte (UInt8.ofNat (m % 256)) W
      simp only [hx] at hcv
      have HX : Hid (hiN n (j + 1) = ⟨#[UInt8.ofNat (m % 256)]⟩ ++ hiN n j) := by
        show hiN n (j + 1) = _
        rw [HM.out]; rfl
      have HM2 : Hid (m / 256 = n / 256 ^ (j + 1)) := by
        show m / 256 = _
        rw [HM.out, Nat.div_div_eq_div_mul, Nat.pow_succ]
      have hsz := hiN_size n j
      have hcat : ¬ 9223372036854775807 < 1 + (hiN n j).size := by omega
      generalize hiN n j = out at *
      generalize UInt8.ofNat (m % 256) = b at *
      have hb1 : (⟨#[b]⟩ : ByteArray).size = 1 := rfl
      clear hx
      go_wp2_with fail
      go_roundg (gk - 1)
      case measure => omega
      case rel => exact ⟨j + 1, m / 256, by omega, HM2.out, by rw [Int.natCast_ediv]; rfl, by rw [HX.out], by go_num, HB.out.alloc HB.out.size _⟩
    · obtain rfl : j = k := by omega
      have hd : decide ((j : Int) < (j : Int)) = false := decide_eq_false (by omega)
      go_wp2_with fail
      go_ret
      exact ⟨rfl, HB.out⟩
theorem be4_hi (x : UInt32) : be4 x = hiN x.toNat 4 := by
  have hx := x.toNat_lt
  have e : ∀ (y : UInt32) (m : Nat), y.toNat = m → b8 y = UInt8.ofNat (m % 256) := fun y m h => by
    apply UInt8.toNat_inj.1
    rw [UInt8.toNat_ofNat_of_lt' (by show _ < 256; omega), ← h]
    rfl
  have e3 : b8 (x >>> 24) = UInt8.ofNat (x.toNat / 256 ^ 3 % 256) := e _ _ (by rw [UInt32.toNat_shiftRight]; show x.toNat >>> 24 = _; rw [Nat.shiftRight_eq_div_pow])
  have e2 : b8 (x >>> 16) = UInt8.ofNat (x.toNat / 256 ^ 2 % 256) := e _ _ (by rw [UInt32.toNat_shiftRight]; show x.toNat >>> 16 = _; rw [Nat.shiftRight_eq_div_pow])
  have e1 : b8 (x >>> 8) = UInt8.ofNat (x.toNat / 256 ^ 1 % 256) := e _ _ (by rw [UInt32.toNat_shiftRight]; show x.toNat >>> 8 = _; rw [Nat.shiftRight_eq_div_pow])
  have e0 : b8 x = UInt8.ofNat (x.toNat / 256 ^ 0 % 256) := e _ _ (by simp)
  unfold be4
  rw [e3, e2, e1, e0]
  rfl

end Go.Proofs.YtimpjlnbbdfehaaGreatDoor
namespace Go.Proofs.YtimpjlnbbdfehaaGreatDoor
open Go.RowKit Go.Shelf Go.Lib Go.Sort
set_option linter.unusedVariables false
attribute [local go_sem ↓] shr_32_1 shl_32_1 shr_32_2 shl_32_2 shr_32_3 shl_32_3 shr_32_4 shl_32_4 shr_32_5 shl_32_5 shr_32_6 shl_32_6 shr_32_7 shl_32_7 shr_32_8 shl_32_8 shr_32_9 shl_32_9 shr_32_10 shl_32_10 shr_32_11 shl_32_11 shr_32_12 shl_32_12 shr_32_13 shl_32_13 shr_32_14 shl_32_14 shr_32_15 shl_32_15 shr_32_16 shl_32_16 shr_32_17 shl_32_17 shr_32_18 shl_32_18 shr_32_19 shl_32_19 shr_32_20 shl_32_20 shr_32_21 shl_32_21 shr_32_22 shl_32_22 shr_32_23 shl_32_23 shr_32_24 shl_32_24 shr_32_25 shl_32_25 shr_32_26 shl_32_26 shr_32_27 shl_32_27 shr_32_28 shl_32_28 shr_32_29 shl_32_29 shr_32_30 shl_32_30 shr_32_31 shl_32_31 shr_64_3 shl_64_3 shr_64_7 shl_64_7 shr_64_8 shl_64_8 shr_64_16 shl_64_16 shr_64_24 shl_64_24 shr_64_32 shl_64_32 shr_64_40 shl_64_40 shr_64_48 shl_64_48 shr_64_56 shl_64_56
attribute [local go_sem] add_u32 add_u64 and_u8 or_u8 xor_u8 and_u32 or_u32 xor_u32 and_u64 or_u64 xor_u64 conv_32_8 conv_64_8 conv_64_32 conv_8_32 conv_8_64 conv_32_64

def zerS (j : Nat) : ByteArray := ⟨(List.replicate j (0 : UInt8)).toArray⟩
theorem zerS_size (j : Nat) : (zerS j).size = j := by
  show (List.replicate j (0 : UInt8)).toArray.size = j
  simp
theorem zerS_succ (a : ByteArray) (j : Nat) : (a ++ zerS j) ++ ⟨#[0]⟩ = a ++ zerS (j + 1) := by
  rw [ByteArray.append_assoc]
  congr 1
  apply ByteArray.ext
  rw [ByteArray.data_append]
  show (List.replicate j (0 : UInt8)).toArray ++ #[0] = (List.replicate (j + 1) (0 : UInt8)).toArray
  apply Array.ext'
  simp [List.replicate_succ']
set_option maxHeartbeats 4000000 in
set_option maxRecDepth 100000 in
theorem rpadded_ok (s : ByteArray) (hs : s.size ≤ 1000000) (w : World) :
    Calls Tryz.prog 71 #[.string s] w fun e w' => e = .returned (.string (s ++ ⟨#[128]⟩ ++ zerS (zerosOf s.size) ++ hiN (8 * s.size) 8)) ∧ Below w.heap.size w w' := by
  have hc1 : ¬ 9223372036854775807 < s.size + 1 := by omega
  have hb1 : (⟨#[128]⟩ : ByteArray).size = 1 := rfl
  have hu : IntKind.u64.wrap ((s.size : Int)) = (s.size : Int) := by rw [wrap_u64]; omega
  have hu8 : IntKind.u64.wrap ((s.size : Int) * 8) = ((8 * s.size : Nat) : Int) := by rw [wrap_u64]; omega
  have hT1 : (s ++ ⟨#[128]⟩).size = s.size + 1 := by rw [ByteArray.size_append]; rfl
  obtain ⟨T, hT⟩ : ∃ T, T = s ++ ⟨#[128]⟩ := ⟨_, rfl⟩
  obtain ⟨Z, hZ⟩ : ∃ Z, Z = zerosOf s.size := ⟨_, rfl⟩
  rw [← hT] at hT1
  have HZ := Lib.hid (hZ.trans rfl : Z = (120 - (s.size + 1) % 64) % 64)
  have HT := Lib.hid hT
  have HT1 := Lib.hid hT1
  rw [← hT, ← hZ]
  clear hZ hT1
  go_enter Tryz.func71, Tryz.ntmps71
  go_wp2_with fail
  rw [← hT]
  clear hT hc1 hb1
  go_loopg [3] Z (fun q v3 wr => ∃ (j : Nat), q + j = Z ∧ v3 = .string (T ++ zerS j) ∧ Below w.heap.size w wr)
  case atStart => exact ⟨0, rfl, by congr 1; exact (ByteArray.ext (by rw [ByteArray.data_append]; exact (Array.append_empty).symm)), Below.refl _ _⟩
  case round =>
    obtain ⟨j, hj, rfl, hb⟩ := hrel
    have HB := Lib.hid hb
    clear hb
    have hsz : (T ++ zerS j).size = s.size + 1 + j := by rw [ByteArray.size_append, zerS_size, HT1.out]
    have hz := HZ.out
    by_cases hlt : j < Z
    · have hne : (((s.size : Int) + 1 + (j : Int)) % 64 != 56) = true := by simp; omega
      have hcat : ¬ 9223372036854775807 < s.size + 1 + j + 1 := by omega
      have HA := Lib.hid (zerS_succ T j)
      clear hz
      generalize T ++ zerS j = X at *
      go_wp2_with fail
      go_roundg (gk - 1)
      case measure => omega
      case rel => exact ⟨j + 1, by omega, by rw [HA.out], HB.out⟩
    · obtain rfl : j = Z := by omega
      have hne : (((s.size : Int) + 1 + (j : Int)) % 64 != 56) = false := by simp; omega
      clear hz
      generalize hX : T ++ zerS j = X at *
      have HXE := Lib.hid hX
      clear hX
      go_wp2_with fail
      have hn8 : 8 * s.size < 18446744073709551616 := by omega
      have HSX := Lib.hid hsz
      have HZ8 : Hid (j ≤ 64) := by have := HZ.out; show _ ≤ _; omega
      clear hsz hne hu hu8
      obtain ⟨N8, hN8⟩ : ∃ N8, N8 = 8 * s.size := ⟨_, rfl⟩
      rw [← hN8] at hn8
      have HN8 := Lib.hid hN8
      clear hN8
      go_loopg [4, 5, 6] 8 (fun q v4 v5 v6 wr => ∃ (i m : Nat), q + i = 8 ∧ m = N8 / 256 ^ i ∧ v4 = .string (hiN N8 i) ∧ v5 = .int .u64 (m : Int) ∧ v6 = .int .i64 (i : Int) ∧ Below w.heap.size w wr)
      case atStart => exact ⟨0, N8, rfl, by simp, rfl, by congr 1; have := HN8.out; omega, rfl, HB.out⟩
      case round =>
        obtain ⟨i, m, hi, hm, rfl, rfl, rfl, hb⟩ := hrel
        have HB2 := Lib.hid hb
        have HM := Lib.hid hm
        clear hb hm
        by_cases hlt : i < 8
        · have hd : decide ((i : Int) < 8) = true := decide_eq_true (by omega)
          have hd2 : decide (i < 8) = true := decide_eq_true hlt
          have hml : m < 18446744073709551616 := by rw [HM.out]; exact Nat.lt_of_le_of_lt (Nat.div_le_self _ _) hn8
          have hx : n8 (UInt8.ofNat (m % 256)) = (m : Int) % 256 := by
            unfold n8
            rw [UInt8.toNat_ofNat_of_lt' (by show _ < 256; omega)]
            omega
          have hcv := fun W => conv_byte (UInt8.ofNat (m % 256)) W
          simp only [hx] at hcv
          have HX : Hid (hiN N8 (i + 1) = ⟨#[UInt8.ofNat (m % 256)]⟩ ++ hiN N8 i) := by
            show hiN N8 (i + 1) = _
            rw [HM.out]; rfl
          have HM2 : Hid (m / 256 = N8 / 256 ^ (i + 1)) := by
            show m / 256 = _
            rw [HM.out, Nat.div_div_eq_div_mul, Nat.pow_succ]
          have hsz2 := hiN_size N8 i
          have hcat : ¬ 9223372036854775807 < 1 + (hiN N8 i).size := by omega
          generalize hiN N8 i = out at *
          generalize UInt8.ofNat (m % 256) = b at *
          have hb1 : (⟨#[b]⟩ : ByteArray).size = 1 := rfl
          clear hx
          go_wp2_with fail
          go_roundg (gk - 1)
          case measure => omega
          case rel => exact ⟨i + 1, m / 256, by omega, HM2.out, by rw [HX.out], by rw [Int.natCast_ediv]; rfl, by go_num, HB2.out.alloc HB2.out.size _⟩
        · obtain rfl : i = 8 := by omega
          have hd : decide (((8 : Nat) : Int) < 8) = false := by decide
          have hsz2 := hiN_size N8 8
          have hsx := HSX.out
          have hz8 := HZ8.out
          have hcat : ¬ 9223372036854775807 < X.size + (hiN N8 8).size := by omega
          generalize ho : hiN N8 8 = out at *
          have HOE := Lib.hid ho
          clear ho
          go_wp2_with fail
          go_ret
          exact ⟨by show Ending.returned (.string (X ++ out)) = _; rw [← HXE.out, ← HOE.out, HN8.out], HB2.out⟩

end Go.Proofs.YtimpjlnbbdfehaaGreatDoor
namespace Go.Proofs.YtimpjlnbbdfehaaGreatDoor
open Go.RowKit Go.Shelf Go.Lib Go.Sort
set_option linter.unusedVariables false
attribute [local go_sem ↓] shr_32_1 shl_32_1 shr_32_2 shl_32_2 shr_32_3 shl_32_3 shr_32_4 shl_32_4 shr_32_5 shl_32_5 shr_32_6 shl_32_6 shr_32_7 shl_32_7 shr_32_8 shl_32_8 shr_32_9 shl_32_9 shr_32_10 shl_32_10 shr_32_11 shl_32_11 shr_32_12 shl_32_12 shr_32_13 shl_32_13 shr_32_14 shl_32_14 shr_32_15 shl_32_15 shr_32_16 shl_32_16 shr_32_17 shl_32_17 shr_32_18 shl_32_18 shr_32_19 shl_32_19 shr_32_20 shl_32_20 shr_32_21 shl_32_21 shr_32_22 shl_32_22 shr_32_23 shl_32_23 shr_32_24 shl_32_24 shr_32_25 shl_32_25 shr_32_26 shl_32_26 shr_32_27 shl_32_27 shr_32_28 shl_32_28 shr_32_29 shl_32_29 shr_32_30 shl_32_30 shr_32_31 shl_32_31 shr_64_3 shl_64_3 shr_64_7 shl_64_7 shr_64_8 shl_64_8 shr_64_16 shl_64_16 shr_64_24 shl_64_24 shr_64_32 shl_64_32 shr_64_40 shl_64_40 shr_64_48 shl_64_48 shr_64_56 shl_64_56
attribute [local go_sem] add_u32 add_u64 and_u8 or_u8 xor_u8 and_u32 or_u32 xor_u32 and_u64 or_u64 xor_u64 conv_32_8 conv_64_8 conv_64_32 conv_8_32 conv_8_64 conv_32_64

theorem lo8_div (N : Nat) (hN : N < 18446744073709551616) (c : Nat) (hc : c < 64) : lo8 (UInt64.ofNat N >>> UInt64.ofNat c) = UInt8.ofNat (N / 2 ^ c % 256) := by
  have e1 : (UInt64.ofNat N).toNat = N := UInt64.toNat_ofNat_of_lt' (by show N < 18446744073709551616; omega)
  have e2 : (UInt64.ofNat c).toNat = c := UInt64.toNat_ofNat_of_lt' (by show c < 18446744073709551616; omega)
  apply UInt8.toNat_inj.1
  rw [UInt8.toNat_ofNat_of_lt' (by show _ < 256; omega)]
  show (UInt64.ofNat N >>> UInt64.ofNat c).toUInt8.toNat = _
  rw [UInt64.toNat_toUInt8, UInt64.toNat_shiftRight, e1, e2, Nat.mod_eq_of_lt hc, Nat.shiftRight_eq_div_pow]
theorem hi_tail (N : Nat) (hN : N < 18446744073709551616) : (hiN N 8).data.toList = tailB (UInt64.ofNat N) 8 := by
  have t := fun c hc => lo8_div N hN c hc
  have e0 := t 0 (by decide)
  have e1 := t 8 (by decide)
  have e2 := t 16 (by decide)
  have e3 := t 24 (by decide)
  have e4 := t 32 (by decide)
  have e5 := t 40 (by decide)
  have e6 := t 48 (by decide)
  have e7 := t 56 (by decide)
  have ht : tailB (UInt64.ofNat N) 8 = [lo8 (UInt64.ofNat N >>> UInt64.ofNat 56), lo8 (UInt64.ofNat N >>> UInt64.ofNat 48), lo8 (UInt64.ofNat N >>> UInt64.ofNat 40), lo8 (UInt64.ofNat N >>> UInt64.ofNat 32), lo8 (UInt64.ofNat N >>> UInt64.ofNat 24), lo8 (UInt64.ofNat N >>> UInt64.ofNat 16), lo8 (UInt64.ofNat N >>> UInt64.ofNat 8), lo8 (UInt64.ofNat N >>> UInt64.ofNat 0)] := by rfl
  have hh : (hiN N 8).data.toList = [UInt8.ofNat (N / 256 ^ 7 % 256), UInt8.ofNat (N / 256 ^ 6 % 256), UInt8.ofNat (N / 256 ^ 5 % 256), UInt8.ofNat (N / 256 ^ 4 % 256), UInt8.ofNat (N / 256 ^ 3 % 256), UInt8.ofNat (N / 256 ^ 2 % 256), UInt8.ofNat (N / 256 ^ 1 % 256), UInt8.ofNat (N / 256 ^ 0 % 256)] := by
    simp [hiN]
  rw [ht, hh, e0, e1, e2, e3, e4, e5, e6, e7]
theorem filled_eq (s : ByteArray) (hs : s.size ≤ 1000000) : s ++ ⟨#[128]⟩ ++ zerS (zerosOf s.size) ++ hiN (8 * s.size) 8 = filledB s := by
  apply ByteArray.ext
  apply Array.ext'
  have hl : s.data.toList.length = s.size := by simp
  show _ = (filledL s.data.toList)
  unfold filledL
  rw [hl, ← hi_tail (8 * s.size) (by omega)]
  simp [zerS, ByteArray.data_append]
theorem rfilled_ok (s : ByteArray) (hs : s.size ≤ 1000000) (w : World) :
    Calls Tryz.prog 71 #[.string s] w fun e w' => e = .returned (.string (filledB s)) ∧ Below w.heap.size w w' := by
  have := rpadded_ok s hs w
  rwa [filled_eq s hs] at this

end Go.Proofs.YtimpjlnbbdfehaaGreatDoor
namespace Go.Proofs.YtimpjlnbbdfehaaGreatDoor
open Go.RowKit Go.Shelf Go.Lib Go.Sort
set_option linter.unusedVariables false
attribute [local go_sem ↓] shr_32_1 shl_32_1 shr_32_2 shl_32_2 shr_32_3 shl_32_3 shr_32_4 shl_32_4 shr_32_5 shl_32_5 shr_32_6 shl_32_6 shr_32_7 shl_32_7 shr_32_8 shl_32_8 shr_32_9 shl_32_9 shr_32_10 shl_32_10 shr_32_11 shl_32_11 shr_32_12 shl_32_12 shr_32_13 shl_32_13 shr_32_14 shl_32_14 shr_32_15 shl_32_15 shr_32_16 shl_32_16 shr_32_17 shl_32_17 shr_32_18 shl_32_18 shr_32_19 shl_32_19 shr_32_20 shl_32_20 shr_32_21 shl_32_21 shr_32_22 shl_32_22 shr_32_23 shl_32_23 shr_32_24 shl_32_24 shr_32_25 shl_32_25 shr_32_26 shl_32_26 shr_32_27 shl_32_27 shr_32_28 shl_32_28 shr_32_29 shl_32_29 shr_32_30 shl_32_30 shr_32_31 shl_32_31 shr_64_3 shl_64_3 shr_64_7 shl_64_7 shr_64_8 shl_64_8 shr_64_16 shl_64_16 shr_64_24 shl_64_24 shr_64_32 shl_64_32 shr_64_40 shl_64_40 shr_64_48 shl_64_48 shr_64_56 shl_64_56
attribute [local go_sem] add_u32 add_u64 and_u8 or_u8 xor_u8 and_u32 or_u32 xor_u32 and_u64 or_u64 xor_u64 conv_32_8 conv_64_8 conv_64_32 conv_8_32 conv_8_64 conv_32_64

set_option maxHeartbeats 2000000 in
set_option maxRecDepth 100000 in
theorem rknown_ok (w : World) :
    Calls Tryz.prog 72 #[] w fun e w' => e = .returned (.slice (some ⟨w.heap.size, 0, none⟩) 64 64) ∧ w' = w.alloc (.cells (vw 64 saltF) 33) := by
  go_enter Tryz.func72, Tryz.ntmps72
  go_wp2_with fail
  go_ret
  exact ⟨rfl, by congr 2⟩

end Go.Proofs.YtimpjlnbbdfehaaGreatDoor
namespace Go.Proofs.YtimpjlnbbdfehaaGreatDoor
open Go.RowKit Go.Shelf Go.Lib Go.Sort
set_option linter.unusedVariables false
attribute [local go_sem ↓] shr_32_1 shl_32_1 shr_32_2 shl_32_2 shr_32_3 shl_32_3 shr_32_4 shl_32_4 shr_32_5 shl_32_5 shr_32_6 shl_32_6 shr_32_7 shl_32_7 shr_32_8 shl_32_8 shr_32_9 shl_32_9 shr_32_10 shl_32_10 shr_32_11 shl_32_11 shr_32_12 shl_32_12 shr_32_13 shl_32_13 shr_32_14 shl_32_14 shr_32_15 shl_32_15 shr_32_16 shl_32_16 shr_32_17 shl_32_17 shr_32_18 shl_32_18 shr_32_19 shl_32_19 shr_32_20 shl_32_20 shr_32_21 shl_32_21 shr_32_22 shl_32_22 shr_32_23 shl_32_23 shr_32_24 shl_32_24 shr_32_25 shl_32_25 shr_32_26 shl_32_26 shr_32_27 shl_32_27 shr_32_28 shl_32_28 shr_32_29 shl_32_29 shr_32_30 shl_32_30 shr_32_31 shl_32_31 shr_64_3 shl_64_3 shr_64_7 shl_64_7 shr_64_8 shl_64_8 shr_64_16 shl_64_16 shr_64_24 shl_64_24 shr_64_32 shl_64_32 shr_64_40 shl_64_40 shr_64_48 shl_64_48 shr_64_56 shl_64_56
attribute [local go_sem] add_u32 add_u64 and_u8 or_u8 xor_u8 and_u32 or_u32 xor_u32 and_u64 or_u64 xor_u64 conv_32_8 conv_64_8 conv_64_32 conv_8_32 conv_8_64 conv_32_64

theorem sub_not_u32 (x : UInt32) : IntKind.u32.wrap (4294967295 - n32 x) = n32 (~~~x) := by
  have hx := x.toNat_lt
  rw [wrap_u32]
  unfold n32
  rw [UInt32.toNat_not]
  show _ = ((4294967296 - 1 - x.toNat : Nat) : Int)
  omega
theorem div_u32 (x : UInt32) (k : Nat) (hk : k < 32) (A : Int) (hA : A = ((2 ^ k : Nat) : Int)) : (n32 x).tdiv A = n32 (x >>> UInt32.ofNat k) := by
  have e1 : (UInt32.ofNat k).toNat = k := UInt32.toNat_ofNat_of_lt' (by show k < 4294967296; omega)
  unfold n32
  rw [UInt32.toNat_shiftRight, e1, Nat.mod_eq_of_lt hk, Nat.shiftRight_eq_div_pow, hA, Int.tdiv_eq_ediv_of_nonneg (Int.natCast_nonneg _)]
  rfl
theorem shl_or (a b : UInt32) (hb : b.toNat < 256) (ha : a.toNat * 256 < 4294967296) : (a <<< 8 ||| b).toNat = a.toNat * 256 + b.toNat := by
  have := or_shl b a 8 (by decide) hb ha
  rw [UInt32.or_comm, show (8 : UInt32) = UInt32.ofNat 8 from rfl, this]
  omega
theorem inF_nat (s : ByteArray) (a : Nat) : (inF s a 4).toNat = 16777216 * (gb s a).toNat + 65536 * (gb s (a + 1)).toNat + 256 * (gb s (a + 2)).toNat + (gb s (a + 3)).toNat := by
  have e : ∀ x : UInt8, (up32 x).toNat = x.toNat := fun x => rfl
  have h0 : inF s a 4 = ((((0 : UInt32) <<< 8 ||| up32 (gb s a)) <<< 8 ||| up32 (gb s (a + 1))) <<< 8 ||| up32 (gb s (a + 2))) <<< 8 ||| up32 (gb s (a + 3)) := rfl
  rw [h0]
  have b0 := (gb s a).toNat_lt
  have b1 := (gb s (a + 1)).toNat_lt
  have b2 := (gb s (a + 2)).toNat_lt
  have b3 := (gb s (a + 3)).toNat_lt
  have z : (0 : UInt32).toNat = 0 := rfl
  generalize gb s a = p0 at *
  generalize gb s (a + 1) = p1 at *
  generalize gb s (a + 2) = p2 at *
  generalize gb s (a + 3) = p3 at *
  have q0 := shl_or 0 (up32 p0) (by rw [e]; omega) (by have := z; omega)
  have q1 := shl_or ((0 : UInt32) <<< 8 ||| up32 p0) (up32 p1) (by rw [e]; omega) (by have := z; have := e p0; omega)
  have q2 := shl_or (((0 : UInt32) <<< 8 ||| up32 p0) <<< 8 ||| up32 p1) (up32 p2) (by rw [e]; omega) (by have := z; have := e p0; have := e p1; omega)
  have q3 := shl_or ((((0 : UInt32) <<< 8 ||| up32 p0) <<< 8 ||| up32 p1) <<< 8 ||| up32 p2) (up32 p3) (by rw [e]; omega) (by have := z; have := e p0; have := e p1; have := e p2; omega)
  have := z; have := e p0; have := e p1; have := e p2; have := e p3
  omega

end Go.Proofs.YtimpjlnbbdfehaaGreatDoor
namespace Go.Proofs.YtimpjlnbbdfehaaGreatDoor
open Go.RowKit Go.Shelf Go.Lib Go.Sort
set_option linter.unusedVariables false
attribute [local go_sem ↓] shr_32_1 shl_32_1 shr_32_2 shl_32_2 shr_32_3 shl_32_3 shr_32_4 shl_32_4 shr_32_5 shl_32_5 shr_32_6 shl_32_6 shr_32_7 shl_32_7 shr_32_8 shl_32_8 shr_32_9 shl_32_9 shr_32_10 shl_32_10 shr_32_11 shl_32_11 shr_32_12 shl_32_12 shr_32_13 shl_32_13 shr_32_14 shl_32_14 shr_32_15 shl_32_15 shr_32_16 shl_32_16 shr_32_17 shl_32_17 shr_32_18 shl_32_18 shr_32_19 shl_32_19 shr_32_20 shl_32_20 shr_32_21 shl_32_21 shr_32_22 shl_32_22 shr_32_23 shl_32_23 shr_32_24 shl_32_24 shr_32_25 shl_32_25 shr_32_26 shl_32_26 shr_32_27 shl_32_27 shr_32_28 shl_32_28 shr_32_29 shl_32_29 shr_32_30 shl_32_30 shr_32_31 shl_32_31 shr_64_3 shl_64_3 shr_64_7 shl_64_7 shr_64_8 shl_64_8 shr_64_16 shl_64_16 shr_64_24 shl_64_24 shr_64_32 shl_64_32 shr_64_40 shl_64_40 shr_64_48 shl_64_48 shr_64_56 shl_64_56
attribute [local go_sem] add_u32 add_u64 and_u8 or_u8 xor_u8 and_u32 or_u32 xor_u32 and_u64 or_u64 xor_u64 conv_32_8 conv_64_8 conv_64_32 conv_8_32 conv_8_64 conv_32_64

theorem info138 : (Tryz.prog.info? 138).map (·.size) = some 8 := by kernel_rfl
theorem info33z : (Tryz.prog.info? 33).map (fun i => (i.zero, i.size, i.bytes)) = some (some (.int .u32 0), 1, 4) := by kernel_rfl
theorem vw_addUp (h x : Nat → UInt32) : vw 8 (addUp h x 8) = #[.int .u32 (n32 (h 0 + x 0)), .int .u32 (n32 (h 1 + x 1)), .int .u32 (n32 (h 2 + x 2)), .int .u32 (n32 (h 3 + x 3)), .int .u32 (n32 (h 4 + x 4)), .int .u32 (n32 (h 5 + x 5)), .int .u32 (n32 (h 6 + x 6)), .int .u32 (n32 (h 7 + x 7))] := by rfl
/-- The three blocks of the papers' words. -/
structure VB (w : World) (h f : Nat → UInt32) (y : World) : Prop where
  b0 : Blk y w.heap.size 138 (vw 8 h)
  b1 : Blk y (w.heap.size + 1) 138 (vw 8 fun _ => 0)
  b2 : Blk y (w.heap.size + 1 + 1) 33 (vw 64 f)
  hb : Below w.heap.size w y
theorem VB.drewN {w : World} {h x : Nat → UInt32} {y : World} (H : VB w h x y) (n : Nat) : VB w h x (y.drewN n) := ⟨H.b0.drewN n, H.b1.drewN n, H.b2.drewN n, below_drewN H.hb n⟩
theorem VB.set2 {w : World} {h x : Nat → UInt32} {y : World} (H : VB w h x y) (i : Nat) (v : UInt32) : VB w h (upd x i v) (y.setCell ⟨w.heap.size + 1 + 1, i, none⟩ (.int .u32 (n32 v))) :=
  ⟨H.b0.far (by show w.heap.size ≠ w.heap.size + 1 + 1; omega) _, H.b1.far (by show w.heap.size + 1 ≠ w.heap.size + 1 + 1; omega) _, H.b2.setw i v, H.hb.setCell (by show w.heap.size ≤ w.heap.size + 1 + 1; omega) _⟩
theorem VB.salt {w : World} {h x : Nat → UInt32} {y : World} (H : VB w h x y) {gs : Nat} (hs : Blk w gs 33 (vw 64 saltF)) : Blk y gs 33 (vw 64 saltF) := (H.hb.block _ hs.lt).trans hs
theorem in_word (s : ByteArray) (a : Nat) (p q r t : UInt8) (hp : p = gb s a) (hq : q = gb s (a + 1)) (hr : r = gb s (a + 2)) (ht : t = gb s (a + 3)) :
    (n32 (up32 p) * 16777216 + n32 (up32 q) * 65536 + n32 (up32 r) * 256 + n32 (up32 t)) % 4294967296 = n32 (inF s a 4) := by
  have hN := inF_nat s a
  rw [← hp, ← hq, ← hr, ← ht] at hN
  generalize inF s a 4 = z at *
  have ea : (up32 p).toNat = p.toNat := rfl
  have eb : (up32 q).toNat = q.toNat := rfl
  have ec : (up32 r).toNat = r.toNat := rfl
  have ed : (up32 t).toNat = t.toNat := rfl
  have b0 := p.toNat_lt
  have b1 := q.toNat_lt
  have b2 := r.toNat_lt
  have b3 := t.toNat_lt
  unfold n32
  rw [ea, eb, ec, ed]
  generalize p.toNat = a at *
  generalize q.toNat = b at *
  generalize r.toNat = c at *
  generalize t.toNat = d at *
  generalize z.toNat = z at *
  clear hp hq hr ht
  omega
theorem mod_n32 (x : UInt32) : n32 x % 4294967296 = n32 x := by unfold n32; have := x.toNat_lt; omega
theorem wrap_n32 (x : UInt32) : IntKind.u32.wrap (n32 x) = n32 x := by rw [wrap_u32, mod_n32]
attribute [local go_sem] sub_not_u32 mod_n32 wrap_n32
set_option maxHeartbeats 8000000 in
set_option maxRecDepth 100000 in
theorem rwords_ok (h : Nat → UInt32) (s : ByteArray) (hs : s.size = 64) (gs : Nat) (w : World) (hT : Blk w gs 33 (vw 64 saltF)) :
    Calls Tryz.prog 73 #[.agg (vw 8 h), .string s, .slice (some ⟨gs, 0, none⟩) 64 64] w fun e w' => e = .returned (.agg (vw 8 (withF h s))) ∧ Below w.heap.size w w' := by
  have HT := Lib.hid hT
  have HS := Lib.hid hs
  have HW : Hid (withF h s = addUp h (rndF h (sprF s 64) 64) 8) := rfl
  obtain ⟨i33, hi33, hz0, hz1, hz2⟩ := info_parts info33z
  clear hs hT
  generalize withF h s = RES at *
  have em : madeCells #[.int .u32 0] 64 = vw 64 (sprF s 0) := by apply Array.ext'; rw [toList_madeCells_one]; rfl
  have HB0 : Hid (VB w h (sprF s 0) (((w.alloc (.cells (vw 8 h) 138)).alloc (.cells (vw 8 fun _ => 0) 138)).alloc (.cells (madeCells #[.int .u32 0] 64) 33))) :=
    ⟨((Blk.new w 138 _).alloc _).alloc _, (blk_new1 w _ 138 _).alloc _, by have := Blk.new ((w.alloc (.cells (vw 8 h) 138)).alloc (.cells (vw 8 fun _ => 0) 138)) 33 (madeCells #[.int .u32 0] 64); rw [← em]; simpa using this, (((Below.refl _ _).alloc (Nat.le_refl _) _).alloc (by simp) _).alloc (by simp; omega) _⟩
  have e0 : (vw 8 fun _ => 0) = #[.int .u32 0, .int .u32 0, .int .u32 0, .int .u32 0, .int .u32 0, .int .u32 0, .int .u32 0, .int .u32 0] := by rfl
  rw [e0] at HB0
  clear e0 em
  go_enter Tryz.func73, Tryz.ntmps73
  go_wp2_with (refine wpList_make_row _ rfl (.const (.int .i64 64)) (.const (.int .i64 64)) 139 rfl 33 i33 (.int .u32 0) Tryz.underlying139 hi33 hz0 hz1 rfl .i64 .i64 64 (by rfl) (by rfl) (by rw [hz2]; decide) (by decide) ?_)
  go_loopg [8] (64 : Nat) (fun q i wr => ∃ (j : Nat), q + j = 64 ∧ i = .int .i64 (j : Int) ∧ VB w h (sprF s j) wr)
  case atStart => exact ⟨0, rfl, rfl, HB0.out⟩
  case round =>
    obtain ⟨j, hj, rfl, hb⟩ := hrel
    have HB := Lib.hid hb
    clear hb HB0
    by_cases hlt : j < 64
    · have hd : decide ((j : Int) < 64) = true := by simp; omega
      have nj : (0 : Int) ≤ j := by omega
      have bj : (j : Int) < 64 := by omega
      have c3 := HB.out.b2.frozen j
      have c4 := HB.out.b2.word j hlt
      by_cases h16 : j < 16
      · have hd16 : decide ((j : Int) < 16) = true := by simp; omega
        have h0 := fun w => ix_str s (4 * j) (4 * (j : Int)) (by omega) (by rw [HS.out]; omega) w
        have h1 := fun w => ix_str s (4 * j + 1) (4 * (j : Int) + 1) (by omega) (by rw [HS.out]; omega) w
        have h2 := fun w => ix_str s (4 * j + 2) (4 * (j : Int) + 2) (by omega) (by rw [HS.out]; omega) w
        have h3 := fun w => ix_str s (4 * j + 3) (4 * (j : Int) + 3) (by omega) (by rw [HS.out]; omega) w
        have w0 : IntKind.i64.wrap (4 * (j : Int)) = 4 * (j : Int) := wrap_in _ (by omega) (by omega)
        have w1 : IntKind.i64.wrap (4 * (j : Int) + 1) = 4 * (j : Int) + 1 := wrap_in _ (by omega) (by omega)
        have w2 : IntKind.i64.wrap (4 * (j : Int) + 2) = 4 * (j : Int) + 2 := wrap_in _ (by omega) (by omega)
        have w3 : IntKind.i64.wrap (4 * (j : Int) + 3) = 4 * (j : Int) + 3 := wrap_in _ (by omega) (by omega)
        have w0' : wrap64 (4 * (j : Int)) = 4 * (j : Int) := w64_small _ (by omega) (by omega)
        have w1' : wrap64 (4 * (j : Int) + 1) = 4 * (j : Int) + 1 := w64_small _ (by omega) (by omega)
        have w2' : wrap64 (4 * (j : Int) + 2) = 4 * (j : Int) + 2 := w64_small _ (by omega) (by omega)
        have w3' : wrap64 (4 * (j : Int) + 3) = 4 * (j : Int) + 3 := w64_small _ (by omega) (by omega)
        have HQ := Lib.hid (in_word s (4 * j) _ _ _ _ rfl rfl rfl rfl)
        have HN : Hid (sprF s (j + 1) = upd (sprF s j) j (inF s (4 * j) 4)) := by show _ = _; rw [sprF, if_pos h16]
        generalize gb s (4 * j) = a at *
        generalize gb s (4 * j + 1) = b at *
        generalize gb s (4 * j + 2) = c at *
        generalize gb s (4 * j + 3) = d at *
        generalize inF s (4 * j) 4 = z at *
        generalize sprF s j = f at *
        go_wp2_with fail
        refine wp_region_plan (fun w' => True) 31 [(true, 0), (true, 1), (true, 2), (true, 3), (true, 4), (true, 5), (true, 6), (true, 7), (true, 8), (true, 9), (true, 10), (true, 11), (true, 12), (true, 13), (true, 14), (true, 15), (true, 16), (true, 17), (true, 18), (true, 19), (true, 20), (true, 21), (true, 22), (true, 23), (true, 24), (true, 25), (true, 26), (true, 27), (true, 28), (true, 29), (true, 30)] (by kernel_rfl) (by kernel_rfl) trivial ?_
        simp only [List.map_cons, List.map_nil, List.getD_cons_zero, List.getD_cons_succ, List.drop_succ_cons, List.drop_zero]
        (refine plan_take (v := ?_) rfl ?_ ?_; rotate_left; (intro wS hSw; (try dsimp only at hSw); go_simp; try with_reducible rfl); simp only [Act.put, List.setIfInBounds_toArray, List.set_cons_zero, List.set_cons_succ])
        (refine plan_take (v := ?_) rfl ?_ ?_; rotate_left; (intro wS hSw; (try dsimp only at hSw); go_simp; try with_reducible rfl); simp only [Act.put, List.setIfInBounds_toArray, List.set_cons_zero, List.set_cons_succ])
        (refine plan_take (v := ?_) rfl ?_ ?_; rotate_left; (intro wS hSw; (try dsimp only at hSw); go_simp; try with_reducible rfl); simp only [Act.put, List.setIfInBounds_toArray, List.set_cons_zero, List.set_cons_succ])
        (refine plan_take (v := ?_) rfl ?_ ?_; rotate_left; (intro wS hSw; (try dsimp only at hSw); go_simp; try with_reducible rfl); simp only [Act.put, List.setIfInBounds_toArray, List.set_cons_zero, List.set_cons_succ])
        (refine plan_take (v := ?_) rfl ?_ ?_; rotate_left; (intro wS hSw; (try dsimp only at hSw); go_simp; try with_reducible rfl); simp only [Act.put, List.setIfInBounds_toArray, List.set_cons_zero, List.set_cons_succ])
        (refine plan_take (v := ?_) rfl ?_ ?_; rotate_left; (intro wS hSw; (try dsimp only at hSw); go_simp; try with_reducible rfl); simp only [Act.put, List.setIfInBounds_toArray, List.set_cons_zero, List.set_cons_succ])
        (refine plan_take (v := ?_) rfl ?_ ?_; rotate_left; (intro wS hSw; (try dsimp only at hSw); go_simp; try with_reducible rfl); simp only [Act.put, List.setIfInBounds_toArray, List.set_cons_zero, List.set_cons_succ])
        (refine plan_take (v := ?_) rfl ?_ ?_; rotate_left; (intro wS hSw; (try dsimp only at hSw); go_simp; try with_reducible rfl); simp only [Act.put, List.setIfInBounds_toArray, List.set_cons_zero, List.set_cons_succ])
        (refine plan_take (v := ?_) rfl ?_ ?_; rotate_left; (intro wS hSw; (try dsimp only at hSw); go_simp; try with_reducible rfl); simp only [Act.put, List.setIfInBounds_toArray, List.set_cons_zero, List.set_cons_succ])
        (refine plan_take (v := ?_) rfl ?_ ?_; rotate_left; (intro wS hSw; (try dsimp only at hSw); go_simp; try with_reducible rfl); simp only [Act.put, List.setIfInBounds_toArray, List.set_cons_zero, List.set_cons_succ])
        (refine plan_take (v := ?_) rfl ?_ ?_; rotate_left; (intro wS hSw; (try dsimp only at hSw); go_simp; try with_reducible rfl); simp only [Act.put, List.setIfInBounds_toArray, List.set_cons_zero, List.set_cons_succ])
        (refine plan_take (v := ?_) rfl ?_ ?_; rotate_left; (intro wS hSw; (try dsimp only at hSw); go_simp; try with_reducible rfl); simp only [Act.put, List.setIfInBounds_toArray, List.set_cons_zero, List.set_cons_succ])
        (refine plan_take (v := ?_) rfl ?_ ?_; rotate_left; (intro wS hSw; (try dsimp only at hSw); go_simp; try with_reducible rfl); simp only [Act.put, List.setIfInBounds_toArray, List.set_cons_zero, List.set_cons_succ])
        (refine plan_take (v := ?_) rfl ?_ ?_; rotate_left; (intro wS hSw; (try dsimp only at hSw); go_simp; try with_reducible rfl); simp only [Act.put, List.setIfInBounds_toArray, List.set_cons_zero, List.set_cons_succ])
        (refine plan_take (v := ?_) rfl ?_ ?_; rotate_left; (intro wS hSw; (try dsimp only at hSw); go_simp; try with_reducible rfl); simp only [Act.put, List.setIfInBounds_toArray, List.set_cons_zero, List.set_cons_succ])
        (refine plan_take (v := ?_) rfl ?_ ?_; rotate_left; (intro wS hSw; (try dsimp only at hSw); go_simp; try with_reducible rfl); simp only [Act.put, List.setIfInBounds_toArray, List.set_cons_zero, List.set_cons_succ])
        (refine plan_take (v := ?_) rfl ?_ ?_; rotate_left; (intro wS hSw; (try dsimp only at hSw); go_simp; try with_reducible rfl); simp only [Act.put, List.setIfInBounds_toArray, List.set_cons_zero, List.set_cons_succ])
        (refine plan_take (v := ?_) rfl ?_ ?_; rotate_left; (intro wS hSw; (try dsimp only at hSw); go_simp; try with_reducible rfl); simp only [Act.put, List.setIfInBounds_toArray, List.set_cons_zero, List.set_cons_succ])
        (refine plan_take (v := ?_) rfl ?_ ?_; rotate_left; (intro wS hSw; (try dsimp only at hSw); go_simp; try with_reducible rfl); simp only [Act.put, List.setIfInBounds_toArray, List.set_cons_zero, List.set_cons_succ])
        (refine plan_take (v := ?_) rfl ?_ ?_; rotate_left; (intro wS hSw; (try dsimp only at hSw); go_simp; try with_reducible rfl); simp only [Act.put, List.setIfInBounds_toArray, List.set_cons_zero, List.set_cons_succ])
        (refine plan_take (v := ?_) rfl ?_ ?_; rotate_left; (intro wS hSw; (try dsimp only at hSw); go_simp; try with_reducible rfl); simp only [Act.put, List.setIfInBounds_toArray, List.set_cons_zero, List.set_cons_succ])
        (refine plan_take (v := ?_) rfl ?_ ?_; rotate_left; (intro wS hSw; (try dsimp only at hSw); go_simp; try with_reducible rfl); simp only [Act.put, List.setIfInBounds_toArray, List.set_cons_zero, List.set_cons_succ])
        (refine plan_take (v := ?_) rfl ?_ ?_; rotate_left; (intro wS hSw; (try dsimp only at hSw); go_simp; try with_reducible rfl); simp only [Act.put, List.setIfInBounds_toArray, List.set_cons_zero, List.set_cons_succ])
        (refine plan_take (v := ?_) rfl ?_ ?_; rotate_left; (intro wS hSw; (try dsimp only at hSw); go_simp; try with_reducible rfl); simp only [Act.put, List.setIfInBounds_toArray, List.set_cons_zero, List.set_cons_succ])
        (refine plan_take (v := ?_) rfl ?_ ?_; rotate_left; (intro wS hSw; (try dsimp only at hSw); go_simp; try with_reducible rfl); simp only [Act.put, List.setIfInBounds_toArray, List.set_cons_zero, List.set_cons_succ])
        (refine plan_take (v := ?_) rfl ?_ ?_; rotate_left; (intro wS hSw; (try dsimp only at hSw); go_simp; try with_reducible rfl); simp only [Act.put, List.setIfInBounds_toArray, List.set_cons_zero, List.set_cons_succ])
        (refine plan_take (v := ?_) rfl ?_ ?_; rotate_left; (intro wS hSw; (try dsimp only at hSw); go_simp; try with_reducible rfl); simp only [Act.put, List.setIfInBounds_toArray, List.set_cons_zero, List.set_cons_succ])
        (refine plan_take (v := ?_) rfl ?_ ?_; rotate_left; (intro wS hSw; (try dsimp only at hSw); go_simp; try with_reducible rfl); simp only [Act.put, List.setIfInBounds_toArray, List.set_cons_zero, List.set_cons_succ])
        (refine plan_take (v := ?_) rfl ?_ ?_; rotate_left; (intro wS hSw; (try dsimp only at hSw); go_simp; try with_reducible rfl); simp only [Act.put, List.setIfInBounds_toArray, List.set_cons_zero, List.set_cons_succ])
        (refine plan_take (v := ?_) rfl ?_ ?_; rotate_left; (intro wS hSw; (try dsimp only at hSw); go_simp; try with_reducible rfl); simp only [Act.put, List.setIfInBounds_toArray, List.set_cons_zero, List.set_cons_succ])
        (refine plan_take (v := ?_) rfl ?_ ?_; rotate_left; (intro wS hSw; (try dsimp only at hSw); go_simp; try with_reducible rfl); simp only [Act.put, List.setIfInBounds_toArray, List.set_cons_zero, List.set_cons_succ])
        refine plan_nil ?_
        go_wp2_with fail
        refine NoPanic.normal ?_
        go_wp2_with fail
        go_roundg (gk - 1)
        case measure => omega
        case rel => exact ⟨j + 1, by omega, by go_num, by rw [HN.out, HQ.out]; exact (HB.out.set2 j _).drewN 1⟩
      · have hd16 : decide ((j : Int) < 16) = false := by simp; omega
        obtain ⟨p16, h16'⟩ : ∃ p, p = j - 16 := ⟨_, rfl⟩
        obtain ⟨p15, h15'⟩ : ∃ p, p = j - 15 := ⟨_, rfl⟩
        obtain ⟨p7, h7'⟩ : ∃ p, p = j - 7 := ⟨_, rfl⟩
        obtain ⟨p2, h2'⟩ : ∃ p, p = j - 2 := ⟨_, rfl⟩
        have HN : Hid (sprF s (j + 1) = upd (sprF s j) j (sprF s j p16 + sg0 (sprF s j p15) + sprF s j p7 + sg1 (sprF s j p2))) := by
          show _ = _
          rw [sprF, if_neg h16, nextW, h16', h15', h7', h2']
        have e16 : (j : Int) - 16 = (p16 : Int) := by omega
        have e15 : (j : Int) - 15 = (p15 : Int) := by omega
        have e7 : (j : Int) - 7 = (p7 : Int) := by omega
        have e2 : (j : Int) - 2 = (p2 : Int) := by omega
        have b15 : (p15 : Int) < 64 := by omega
        have b2 : (p2 : Int) < 64 := by omega
        have b16 : (p16 : Int) < 64 := by omega
        have b7 : (p7 : Int) < 64 := by omega
        have n15 : (0 : Int) ≤ p15 := by omega
        have w15 := wrap_i64_in (p15 : Int) (by omega) (by omega)
        have n2 : (0 : Int) ≤ p2 := by omega
        have w2 := wrap_i64_in (p2 : Int) (by omega) (by omega)
        have n16 : (0 : Int) ≤ p16 := by omega
        have w16 := wrap_i64_in (p16 : Int) (by omega) (by omega)
        have n7 : (0 : Int) ≤ p7 := by omega
        have w7 := wrap_i64_in (p7 : Int) (by omega) (by omega)
        have c1 := HB.out.b2.word p15 (by omega)
        have c2 := HB.out.b2.word p2 (by omega)
        have c5 := HB.out.b2.word p16 (by omega)
        have c6 := HB.out.b2.word p7 (by omega)
        clear h16' h15' h7' h2'
        generalize sprF s j = f at *
        generalize f p15 = A at *
        generalize f p2 = B at *
        generalize f p16 = C at *
        generalize f p7 = D at *
        have q1 : (n32 A).tdiv 8 = n32 (A >>> 3) := div_u32 A 3 (by decide) 8 rfl
        have q2 : (n32 B).tdiv 1024 = n32 (B >>> 10) := div_u32 B 10 (by decide) 1024 rfl
        go_wp2_with fail
        refine wp_region_plan (fun w' => w'.cell? ⟨w.heap.size + 1 + 1, p15, none⟩ = some (.int .u32 (n32 A)) ∧ w'.cell? ⟨w.heap.size + 1 + 1, p2, none⟩ = some (.int .u32 (n32 B))) 11 [(true, 0), (true, 1), (true, 2), (true, 3), (true, 4), (true, 5), (true, 6), (true, 7), (true, 8), (true, 9), (true, 10)] (by kernel_rfl) (by kernel_rfl) ⟨c1, c2⟩ ?_
        simp only [List.map_cons, List.map_nil, List.getD_cons_zero, List.getD_cons_succ, List.drop_succ_cons, List.drop_zero]
        (refine plan_take (v := ?_) rfl ?_ ?_; rotate_left; (intro wS hSw; (try dsimp only at hSw); go_simp; try with_reducible rfl); simp only [Act.put, List.setIfInBounds_toArray, List.set_cons_zero, List.set_cons_succ])
        (refine plan_take (v := ?_) rfl ?_ ?_; rotate_left; (intro wS hSw; (try dsimp only at hSw); go_simp; try with_reducible rfl); simp only [Act.put, List.setIfInBounds_toArray, List.set_cons_zero, List.set_cons_succ])
        (refine plan_take (v := ?_) rfl ?_ ?_; rotate_left; (intro wS hSw; (try dsimp only at hSw); go_simp; try with_reducible rfl); simp only [Act.put, List.setIfInBounds_toArray, List.set_cons_zero, List.set_cons_succ])
        (refine plan_take (v := ?_) rfl ?_ ?_; rotate_left; (intro wS hSw; (try dsimp only at hSw); go_simp; try with_reducible rfl); simp only [Act.put, List.setIfInBounds_toArray, List.set_cons_zero, List.set_cons_succ])
        (refine plan_take (v := ?_) rfl ?_ ?_; rotate_left; (intro wS hSw; (try dsimp only at hSw); go_simp; try with_reducible rfl); simp only [Act.put, List.setIfInBounds_toArray, List.set_cons_zero, List.set_cons_succ])
        (refine plan_take (v := ?_) rfl ?_ ?_; rotate_left; (intro wS hSw; (try dsimp only at hSw); go_simp; try with_reducible rfl); simp only [Act.put, List.setIfInBounds_toArray, List.set_cons_zero, List.set_cons_succ])
        (refine plan_take (v := ?_) rfl ?_ ?_; rotate_left; (intro wS hSw; (try dsimp only at hSw); go_simp; try with_reducible rfl); simp only [Act.put, List.setIfInBounds_toArray, List.set_cons_zero, List.set_cons_succ])
        (refine plan_take (v := ?_) rfl ?_ ?_; rotate_left; (intro wS hSw; (try dsimp only at hSw); go_simp; try with_reducible rfl); simp only [Act.put, List.setIfInBounds_toArray, List.set_cons_zero, List.set_cons_succ])
        (refine plan_take (v := ?_) rfl ?_ ?_; rotate_left; (intro wS hSw; (try dsimp only at hSw); go_simp; try with_reducible rfl); simp only [Act.put, List.setIfInBounds_toArray, List.set_cons_zero, List.set_cons_succ])
        (refine plan_take (v := ?_) rfl ?_ ?_; rotate_left; (intro wS hSw; (try dsimp only at hSw); go_simp; try with_reducible rfl); simp only [Act.put, List.setIfInBounds_toArray, List.set_cons_zero, List.set_cons_succ])
        (refine plan_take (v := ?_) rfl ?_ ?_; rotate_left; (intro wS hSw; (try dsimp only at hSw); go_simp; try with_reducible rfl); simp only [Act.put, List.setIfInBounds_toArray, List.set_cons_zero, List.set_cons_succ])
        refine plan_nil ?_
        go_wp2_with fail
        refine NoPanic.normal ?_
        go_wp2_with fail
        refine wp_region_plan (fun w' => w'.cell? ⟨w.heap.size + 1 + 1, p16, none⟩ = some (.int .u32 (n32 C)) ∧ w'.cell? ⟨w.heap.size + 1 + 1, p7, none⟩ = some (.int .u32 (n32 D))) 31 [(true, 0), (true, 1), (true, 2), (true, 3), (true, 4), (true, 5), (true, 6), (true, 7), (true, 9), (true, 12), (true, 13), (true, 16), (true, 17), (true, 18), (true, 19), (true, 20), (true, 22), (true, 24), (true, 27), (true, 28), (false, 8), (false, 10), (true, 11), (true, 14), (true, 15), (true, 21), (false, 23), (false, 25), (true, 26), (true, 29), (true, 30)] (by kernel_rfl) (by kernel_rfl) ⟨c5, c6⟩ ?_
        simp only [List.map_cons, List.map_nil, List.getD_cons_zero, List.getD_cons_succ, List.drop_succ_cons, List.drop_zero]
        (refine plan_take (v := ?_) rfl ?_ ?_; rotate_left; (intro wS hSw; (try dsimp only at hSw); go_simp; try with_reducible rfl); simp only [Act.put, List.setIfInBounds_toArray, List.set_cons_zero, List.set_cons_succ])
        (refine plan_take (v := ?_) rfl ?_ ?_; rotate_left; (intro wS hSw; (try dsimp only at hSw); go_simp; try with_reducible rfl); simp only [Act.put, List.setIfInBounds_toArray, List.set_cons_zero, List.set_cons_succ])
        (refine plan_take (v := ?_) rfl ?_ ?_; rotate_left; (intro wS hSw; (try dsimp only at hSw); go_simp; try with_reducible rfl); simp only [Act.put, List.setIfInBounds_toArray, List.set_cons_zero, List.set_cons_succ])
        (refine plan_take (v := ?_) rfl ?_ ?_; rotate_left; (intro wS hSw; (try dsimp only at hSw); go_simp; try with_reducible rfl); simp only [Act.put, List.setIfInBounds_toArray, List.set_cons_zero, List.set_cons_succ])
        (refine plan_take (v := ?_) rfl ?_ ?_; rotate_left; (intro wS hSw; (try dsimp only at hSw); go_simp; try with_reducible rfl); simp only [Act.put, List.setIfInBounds_toArray, List.set_cons_zero, List.set_cons_succ])
        (refine plan_take (v := ?_) rfl ?_ ?_; rotate_left; (intro wS hSw; (try dsimp only at hSw); go_simp; try with_reducible rfl); simp only [Act.put, List.setIfInBounds_toArray, List.set_cons_zero, List.set_cons_succ])
        (refine plan_take (v := ?_) rfl ?_ ?_; rotate_left; (intro wS hSw; (try dsimp only at hSw); go_simp; try with_reducible rfl); simp only [Act.put, List.setIfInBounds_toArray, List.set_cons_zero, List.set_cons_succ])
        (refine plan_take (v := ?_) rfl ?_ ?_; rotate_left; (intro wS hSw; (try dsimp only at hSw); go_simp; try with_reducible rfl); simp only [Act.put, List.setIfInBounds_toArray, List.set_cons_zero, List.set_cons_succ])
        (refine plan_take (v := ?_) rfl ?_ ?_; rotate_left; (intro wS hSw; (try dsimp only at hSw); go_simp; try with_reducible rfl); simp only [Act.put, List.setIfInBounds_toArray, List.set_cons_zero, List.set_cons_succ])
        (refine plan_take (v := ?_) rfl ?_ ?_; rotate_left; (intro wS hSw; (try dsimp only at hSw); go_simp; try with_reducible rfl); simp only [Act.put, List.setIfInBounds_toArray, List.set_cons_zero, List.set_cons_succ])
        (refine plan_take (v := ?_) rfl ?_ ?_; rotate_left; (intro wS hSw; (try dsimp only at hSw); go_simp; try with_reducible rfl); simp only [Act.put, List.setIfInBounds_toArray, List.set_cons_zero, List.set_cons_succ])
        (refine plan_take (v := ?_) rfl ?_ ?_; rotate_left; (intro wS hSw; (try dsimp only at hSw); go_simp; try with_reducible rfl); simp only [Act.put, List.setIfInBounds_toArray, List.set_cons_zero, List.set_cons_succ])
        (refine plan_take (v := ?_) rfl ?_ ?_; rotate_left; (intro wS hSw; (try dsimp only at hSw); go_simp; try with_reducible rfl); simp only [Act.put, List.setIfInBounds_toArray, List.set_cons_zero, List.set_cons_succ])
        (refine plan_take (v := ?_) rfl ?_ ?_; rotate_left; (intro wS hSw; (try dsimp only at hSw); go_simp; try with_reducible rfl); simp only [Act.put, List.setIfInBounds_toArray, List.set_cons_zero, List.set_cons_succ])
        (refine plan_take (v := ?_) rfl ?_ ?_; rotate_left; (intro wS hSw; (try dsimp only at hSw); go_simp; try with_reducible rfl); simp only [Act.put, List.setIfInBounds_toArray, List.set_cons_zero, List.set_cons_succ])
        (refine plan_take (v := ?_) rfl ?_ ?_; rotate_left; (intro wS hSw; (try dsimp only at hSw); go_simp; try with_reducible rfl); simp only [Act.put, List.setIfInBounds_toArray, List.set_cons_zero, List.set_cons_succ])
        (refine plan_take (v := ?_) rfl ?_ ?_; rotate_left; (intro wS hSw; (try dsimp only at hSw); go_simp; try with_reducible rfl); simp only [Act.put, List.setIfInBounds_toArray, List.set_cons_zero, List.set_cons_succ])
        (refine plan_take (v := ?_) rfl ?_ ?_; rotate_left; (intro wS hSw; (try dsimp only at hSw); go_simp; try with_reducible rfl); simp only [Act.put, List.setIfInBounds_toArray, List.set_cons_zero, List.set_cons_succ])
        (refine plan_take (v := ?_) rfl ?_ ?_; rotate_left; (intro wS hSw; (try dsimp only at hSw); go_simp; try with_reducible rfl); simp only [Act.put, List.setIfInBounds_toArray, List.set_cons_zero, List.set_cons_succ])
        (refine plan_take (v := ?_) rfl ?_ ?_; rotate_left; (intro wS hSw; (try dsimp only at hSw); go_simp; try with_reducible rfl); simp only [Act.put, List.setIfInBounds_toArray, List.set_cons_zero, List.set_cons_succ])
        refine plan_run rfl (fun K hK => ?_)
        go_simp
        refine (rturn_7 _ _).mono ?_
        rintro e w1 ⟨rfl, rfl⟩
        refine hK.out _ _ ⟨c5, c6⟩ ?_
        clear hK K
        try simp only [Act.put, List.setIfInBounds_toArray, List.set_cons_zero, List.set_cons_succ]
        refine plan_run rfl (fun K hK => ?_)
        go_simp
        refine (rturn_18 _ _).mono ?_
        rintro e w1 ⟨rfl, rfl⟩
        refine hK.out _ _ ⟨c5, c6⟩ ?_
        clear hK K
        try simp only [Act.put, List.setIfInBounds_toArray, List.set_cons_zero, List.set_cons_succ]
        (refine plan_take (v := ?_) rfl ?_ ?_; rotate_left; (intro wS hSw; (try dsimp only at hSw); go_simp; try with_reducible rfl); simp only [Act.put, List.setIfInBounds_toArray, List.set_cons_zero, List.set_cons_succ])
        (refine plan_take (v := ?_) rfl ?_ ?_; rotate_left; (intro wS hSw; (try dsimp only at hSw); go_simp; try with_reducible rfl); simp only [Act.put, List.setIfInBounds_toArray, List.set_cons_zero, List.set_cons_succ])
        (refine plan_take (v := ?_) rfl ?_ ?_; rotate_left; (intro wS hSw; (try dsimp only at hSw); go_simp; try with_reducible rfl); simp only [Act.put, List.setIfInBounds_toArray, List.set_cons_zero, List.set_cons_succ])
        (refine plan_take (v := ?_) rfl ?_ ?_; rotate_left; (intro wS hSw; (try dsimp only at hSw); go_simp; try with_reducible rfl); simp only [Act.put, List.setIfInBounds_toArray, List.set_cons_zero, List.set_cons_succ])
        refine plan_run rfl (fun K hK => ?_)
        go_simp
        refine (rturn_17 _ _).mono ?_
        rintro e w1 ⟨rfl, rfl⟩
        refine hK.out _ _ ⟨c5, c6⟩ ?_
        clear hK K
        try simp only [Act.put, List.setIfInBounds_toArray, List.set_cons_zero, List.set_cons_succ]
        refine plan_run rfl (fun K hK => ?_)
        go_simp
        refine (rturn_19 _ _).mono ?_
        rintro e w1 ⟨rfl, rfl⟩
        refine hK.out _ _ ⟨c5, c6⟩ ?_
        clear hK K
        try simp only [Act.put, List.setIfInBounds_toArray, List.set_cons_zero, List.set_cons_succ]
        (refine plan_take (v := ?_) rfl ?_ ?_; rotate_left; (intro wS hSw; (try dsimp only at hSw); go_simp; try with_reducible rfl); simp only [Act.put, List.setIfInBounds_toArray, List.set_cons_zero, List.set_cons_succ])
        (refine plan_take (v := ?_) rfl ?_ ?_; rotate_left; (intro wS hSw; (try dsimp only at hSw); go_simp; try with_reducible rfl); simp only [Act.put, List.setIfInBounds_toArray, List.set_cons_zero, List.set_cons_succ])
        (refine plan_take (v := ?_) rfl ?_ ?_; rotate_left; (intro wS hSw; (try dsimp only at hSw); go_simp; try with_reducible rfl); simp only [Act.put, List.setIfInBounds_toArray, List.set_cons_zero, List.set_cons_succ])
        refine plan_nil ?_
        go_wp2_with fail
        refine NoPanic.normal ?_
        go_wp2_with fail
        go_roundg (gk - 1)
        case measure => omega
        case rel => exact ⟨j + 1, by omega, by go_num, by rw [HN.out]; exact (HB.out.set2 j _).drewN 2⟩
    · obtain rfl : j = 64 := by omega
      have hd : decide (((64 : Nat) : Int) < 64) = false := by decide
      have d0 := HB.out.b0.word 0 (by omega)
      have d1 := HB.out.b0.word 1 (by omega)
      have d2 := HB.out.b0.word 2 (by omega)
      have d3 := HB.out.b0.word 3 (by omega)
      have d4 := HB.out.b0.word 4 (by omega)
      have d5 := HB.out.b0.word 5 (by omega)
      have d6 := HB.out.b0.word 6 (by omega)
      have d7 := HB.out.b0.word 7 (by omega)
      generalize sprF s 64 = wd at *
      go_wp2_with fail
      refine wp_region_plan (fun w' => w'.cell? ⟨w.heap.size, 0, none⟩ = some (.int .u32 (n32 (h 0))) ∧ w'.cell? ⟨w.heap.size, 1, none⟩ = some (.int .u32 (n32 (h 1))) ∧ w'.cell? ⟨w.heap.size, 2, none⟩ = some (.int .u32 (n32 (h 2))) ∧ w'.cell? ⟨w.heap.size, 3, none⟩ = some (.int .u32 (n32 (h 3))) ∧ w'.cell? ⟨w.heap.size, 4, none⟩ = some (.int .u32 (n32 (h 4))) ∧ w'.cell? ⟨w.heap.size, 5, none⟩ = some (.int .u32 (n32 (h 5))) ∧ w'.cell? ⟨w.heap.size, 6, none⟩ = some (.int .u32 (n32 (h 6))) ∧ w'.cell? ⟨w.heap.size, 7, none⟩ = some (.int .u32 (n32 (h 7)))) 23 [(true, 0), (true, 1), (true, 2), (true, 3), (true, 4), (true, 5), (true, 6), (true, 7), (true, 8), (true, 9), (true, 10), (true, 11), (true, 12), (true, 13), (true, 14), (true, 15), (true, 16), (true, 17), (true, 18), (true, 19), (true, 20), (true, 21), (true, 22)] (by kernel_rfl) (by kernel_rfl) ⟨d0, d1, d2, d3, d4, d5, d6, d7⟩ ?_
      simp only [List.map_cons, List.map_nil, List.getD_cons_zero, List.getD_cons_succ, List.drop_succ_cons, List.drop_zero]
      (refine plan_take (v := ?_) rfl ?_ ?_; rotate_left; (rintro wS ⟨s0, s1, s2, s3, s4, s5, s6, s7⟩; (try dsimp only at s0 s1 s2 s3 s4 s5 s6 s7); go_simp; try with_reducible rfl); simp only [Act.put, List.setIfInBounds_toArray, List.set_cons_zero, List.set_cons_succ])
      (refine plan_take (v := ?_) rfl ?_ ?_; rotate_left; (rintro wS ⟨s0, s1, s2, s3, s4, s5, s6, s7⟩; (try dsimp only at s0 s1 s2 s3 s4 s5 s6 s7); go_simp; try with_reducible rfl); simp only [Act.put, List.setIfInBounds_toArray, List.set_cons_zero, List.set_cons_succ])
      (refine plan_take (v := ?_) rfl ?_ ?_; rotate_left; (rintro wS ⟨s0, s1, s2, s3, s4, s5, s6, s7⟩; (try dsimp only at s0 s1 s2 s3 s4 s5 s6 s7); go_simp; try with_reducible rfl); simp only [Act.put, List.setIfInBounds_toArray, List.set_cons_zero, List.set_cons_succ])
      (refine plan_take (v := ?_) rfl ?_ ?_; rotate_left; (rintro wS ⟨s0, s1, s2, s3, s4, s5, s6, s7⟩; (try dsimp only at s0 s1 s2 s3 s4 s5 s6 s7); go_simp; try with_reducible rfl); simp only [Act.put, List.setIfInBounds_toArray, List.set_cons_zero, List.set_cons_succ])
      (refine plan_take (v := ?_) rfl ?_ ?_; rotate_left; (rintro wS ⟨s0, s1, s2, s3, s4, s5, s6, s7⟩; (try dsimp only at s0 s1 s2 s3 s4 s5 s6 s7); go_simp; try with_reducible rfl); simp only [Act.put, List.setIfInBounds_toArray, List.set_cons_zero, List.set_cons_succ])
      (refine plan_take (v := ?_) rfl ?_ ?_; rotate_left; (rintro wS ⟨s0, s1, s2, s3, s4, s5, s6, s7⟩; (try dsimp only at s0 s1 s2 s3 s4 s5 s6 s7); go_simp; try with_reducible rfl); simp only [Act.put, List.setIfInBounds_toArray, List.set_cons_zero, List.set_cons_succ])
      (refine plan_take (v := ?_) rfl ?_ ?_; rotate_left; (rintro wS ⟨s0, s1, s2, s3, s4, s5, s6, s7⟩; (try dsimp only at s0 s1 s2 s3 s4 s5 s6 s7); go_simp; try with_reducible rfl); simp only [Act.put, List.setIfInBounds_toArray, List.set_cons_zero, List.set_cons_succ])
      (refine plan_take (v := ?_) rfl ?_ ?_; rotate_left; (rintro wS ⟨s0, s1, s2, s3, s4, s5, s6, s7⟩; (try dsimp only at s0 s1 s2 s3 s4 s5 s6 s7); go_simp; try with_reducible rfl); simp only [Act.put, List.setIfInBounds_toArray, List.set_cons_zero, List.set_cons_succ])
      (refine plan_take (v := ?_) rfl ?_ ?_; rotate_left; (rintro wS ⟨s0, s1, s2, s3, s4, s5, s6, s7⟩; (try dsimp only at s0 s1 s2 s3 s4 s5 s6 s7); go_simp; try with_reducible rfl); simp only [Act.put, List.setIfInBounds_toArray, List.set_cons_zero, List.set_cons_succ])
      (refine plan_take (v := ?_) rfl ?_ ?_; rotate_left; (rintro wS ⟨s0, s1, s2, s3, s4, s5, s6, s7⟩; (try dsimp only at s0 s1 s2 s3 s4 s5 s6 s7); go_simp; try with_reducible rfl); simp only [Act.put, List.setIfInBounds_toArray, List.set_cons_zero, List.set_cons_succ])
      (refine plan_take (v := ?_) rfl ?_ ?_; rotate_left; (rintro wS ⟨s0, s1, s2, s3, s4, s5, s6, s7⟩; (try dsimp only at s0 s1 s2 s3 s4 s5 s6 s7); go_simp; try with_reducible rfl); simp only [Act.put, List.setIfInBounds_toArray, List.set_cons_zero, List.set_cons_succ])
      (refine plan_take (v := ?_) rfl ?_ ?_; rotate_left; (rintro wS ⟨s0, s1, s2, s3, s4, s5, s6, s7⟩; (try dsimp only at s0 s1 s2 s3 s4 s5 s6 s7); go_simp; try with_reducible rfl); simp only [Act.put, List.setIfInBounds_toArray, List.set_cons_zero, List.set_cons_succ])
      (refine plan_take (v := ?_) rfl ?_ ?_; rotate_left; (rintro wS ⟨s0, s1, s2, s3, s4, s5, s6, s7⟩; (try dsimp only at s0 s1 s2 s3 s4 s5 s6 s7); go_simp; try with_reducible rfl); simp only [Act.put, List.setIfInBounds_toArray, List.set_cons_zero, List.set_cons_succ])
      (refine plan_take (v := ?_) rfl ?_ ?_; rotate_left; (rintro wS ⟨s0, s1, s2, s3, s4, s5, s6, s7⟩; (try dsimp only at s0 s1 s2 s3 s4 s5 s6 s7); go_simp; try with_reducible rfl); simp only [Act.put, List.setIfInBounds_toArray, List.set_cons_zero, List.set_cons_succ])
      (refine plan_take (v := ?_) rfl ?_ ?_; rotate_left; (rintro wS ⟨s0, s1, s2, s3, s4, s5, s6, s7⟩; (try dsimp only at s0 s1 s2 s3 s4 s5 s6 s7); go_simp; try with_reducible rfl); simp only [Act.put, List.setIfInBounds_toArray, List.set_cons_zero, List.set_cons_succ])
      (refine plan_take (v := ?_) rfl ?_ ?_; rotate_left; (rintro wS ⟨s0, s1, s2, s3, s4, s5, s6, s7⟩; (try dsimp only at s0 s1 s2 s3 s4 s5 s6 s7); go_simp; try with_reducible rfl); simp only [Act.put, List.setIfInBounds_toArray, List.set_cons_zero, List.set_cons_succ])
      (refine plan_take (v := ?_) rfl ?_ ?_; rotate_left; (rintro wS ⟨s0, s1, s2, s3, s4, s5, s6, s7⟩; (try dsimp only at s0 s1 s2 s3 s4 s5 s6 s7); go_simp; try with_reducible rfl); simp only [Act.put, List.setIfInBounds_toArray, List.set_cons_zero, List.set_cons_succ])
      (refine plan_take (v := ?_) rfl ?_ ?_; rotate_left; (rintro wS ⟨s0, s1, s2, s3, s4, s5, s6, s7⟩; (try dsimp only at s0 s1 s2 s3 s4 s5 s6 s7); go_simp; try with_reducible rfl); simp only [Act.put, List.setIfInBounds_toArray, List.set_cons_zero, List.set_cons_succ])
      (refine plan_take (v := ?_) rfl ?_ ?_; rotate_left; (rintro wS ⟨s0, s1, s2, s3, s4, s5, s6, s7⟩; (try dsimp only at s0 s1 s2 s3 s4 s5 s6 s7); go_simp; try with_reducible rfl); simp only [Act.put, List.setIfInBounds_toArray, List.set_cons_zero, List.set_cons_succ])
      (refine plan_take (v := ?_) rfl ?_ ?_; rotate_left; (rintro wS ⟨s0, s1, s2, s3, s4, s5, s6, s7⟩; (try dsimp only at s0 s1 s2 s3 s4 s5 s6 s7); go_simp; try with_reducible rfl); simp only [Act.put, List.setIfInBounds_toArray, List.set_cons_zero, List.set_cons_succ])
      (refine plan_take (v := ?_) rfl ?_ ?_; rotate_left; (rintro wS ⟨s0, s1, s2, s3, s4, s5, s6, s7⟩; (try dsimp only at s0 s1 s2 s3 s4 s5 s6 s7); go_simp; try with_reducible rfl); simp only [Act.put, List.setIfInBounds_toArray, List.set_cons_zero, List.set_cons_succ])
      (refine plan_take (v := ?_) rfl ?_ ?_; rotate_left; (rintro wS ⟨s0, s1, s2, s3, s4, s5, s6, s7⟩; (try dsimp only at s0 s1 s2 s3 s4 s5 s6 s7); go_simp; try with_reducible rfl); simp only [Act.put, List.setIfInBounds_toArray, List.set_cons_zero, List.set_cons_succ])
      (refine plan_take (v := ?_) rfl ?_ ?_; rotate_left; (rintro wS ⟨s0, s1, s2, s3, s4, s5, s6, s7⟩; (try dsimp only at s0 s1 s2 s3 s4 s5 s6 s7); go_simp; try with_reducible rfl); simp only [Act.put, List.setIfInBounds_toArray, List.set_cons_zero, List.set_cons_succ])
      refine plan_nil ?_
      go_wp2_with fail
      refine NoPanic.normal ?_
      go_wp2_with fail
      have HB1 := Lib.hid (HB.out.drewN 1)
      clear d0 d1 d2 d3 d4 d5 d6 d7 HB hd
      go_loopg [11, 12, 13, 14, 15, 16, 17, 18, 19] (64 : Nat) (fun q v11 v12 v13 v14 v15 v16 v17 v18 v19 wr => ∃ (j : Nat), q + j = 64 ∧ v11 = .int .u32 (n32 (rndF h wd j 0)) ∧ v12 = .int .u32 (n32 (rndF h wd j 1)) ∧ v13 = .int .u32 (n32 (rndF h wd j 2)) ∧ v14 = .int .u32 (n32 (rndF h wd j 3)) ∧ v15 = .int .u32 (n32 (rndF h wd j 4)) ∧ v16 = .int .u32 (n32 (rndF h wd j 5)) ∧ v17 = .int .u32 (n32 (rndF h wd j 6)) ∧ v18 = .int .u32 (n32 (rndF h wd j 7)) ∧ v19 = .int .i64 (j : Int) ∧ VB w h wd wr)
      case atStart => exact ⟨0, rfl, rfl, rfl, rfl, rfl, rfl, rfl, rfl, rfl, rfl, HB1.out⟩
      case round =>
        obtain ⟨j, hj, rfl, rfl, rfl, rfl, rfl, rfl, rfl, rfl, rfl, hb⟩ := hrel
        have HB := Lib.hid hb
        clear hb HB1
        by_cases hlt : j < 64
        · have hd : decide ((j : Int) < 64) = true := by simp; omega
          have nj : (0 : Int) ≤ j := by omega
          have bj : (j : Int) < 64 := by omega
          have wj := wrap_i64_in (j : Int) (by omega) (by omega)
          have HR : Hid (rndF h wd (j + 1) = roundF (rndF h wd j) (saltF j) (wd j)) := rfl
          have dk := (HB.out.salt HT.out).word j hlt
          have dx := HB.out.b2.word j hlt
          generalize hxj : wd j = xj at *
          clear hxj
          generalize saltF j = kj at *
          generalize rndF h wd j = f at *
          go_wp2_with fail
          refine wp_region_plan (fun w' => w'.cell? ⟨gs, j, none⟩ = some (.int .u32 (n32 kj)) ∧ w'.cell? ⟨w.heap.size + 1 + 1, j, none⟩ = some (.int .u32 (n32 xj))) 29 [(true, 0), (true, 1), (true, 3), (true, 6), (true, 10), (true, 11), (true, 12), (true, 13), (true, 14), (true, 15), (true, 16), (true, 17), (true, 19), (true, 20), (true, 21), (true, 22), (true, 24), (true, 25), (true, 26), (true, 27), (false, 2), (false, 4), (true, 5), (false, 7), (true, 8), (true, 9), (true, 18), (true, 23), (true, 28)] (by kernel_rfl) (by kernel_rfl) ⟨dk, dx⟩ ?_
          simp only [List.map_cons, List.map_nil, List.getD_cons_zero, List.getD_cons_succ, List.drop_succ_cons, List.drop_zero]
          (refine plan_take (v := ?_) rfl ?_ ?_; rotate_left; (intro wS hSw; (try dsimp only at hSw); go_simp; try with_reducible rfl); simp only [Act.put, List.setIfInBounds_toArray, List.set_cons_zero, List.set_cons_succ])
          (refine plan_take (v := ?_) rfl ?_ ?_; rotate_left; (intro wS hSw; (try dsimp only at hSw); go_simp; try with_reducible rfl); simp only [Act.put, List.setIfInBounds_toArray, List.set_cons_zero, List.set_cons_succ])
          (refine plan_take (v := ?_) rfl ?_ ?_; rotate_left; (intro wS hSw; (try dsimp only at hSw); go_simp; try with_reducible rfl); simp only [Act.put, List.setIfInBounds_toArray, List.set_cons_zero, List.set_cons_succ])
          (refine plan_take (v := ?_) rfl ?_ ?_; rotate_left; (intro wS hSw; (try dsimp only at hSw); go_simp; try with_reducible rfl); simp only [Act.put, List.setIfInBounds_toArray, List.set_cons_zero, List.set_cons_succ])
          (refine plan_take (v := ?_) rfl ?_ ?_; rotate_left; (intro wS hSw; (try dsimp only at hSw); go_simp; try with_reducible rfl); simp only [Act.put, List.setIfInBounds_toArray, List.set_cons_zero, List.set_cons_succ])
          (refine plan_take (v := ?_) rfl ?_ ?_; rotate_left; (intro wS hSw; (try dsimp only at hSw); go_simp; try with_reducible rfl); simp only [Act.put, List.setIfInBounds_toArray, List.set_cons_zero, List.set_cons_succ])
          (refine plan_take (v := ?_) rfl ?_ ?_; rotate_left; (intro wS hSw; (try dsimp only at hSw); go_simp; try with_reducible rfl); simp only [Act.put, List.setIfInBounds_toArray, List.set_cons_zero, List.set_cons_succ])
          (refine plan_take (v := ?_) rfl ?_ ?_; rotate_left; (intro wS hSw; (try dsimp only at hSw); go_simp; try with_reducible rfl); simp only [Act.put, List.setIfInBounds_toArray, List.set_cons_zero, List.set_cons_succ])
          (refine plan_take (v := ?_) rfl ?_ ?_; rotate_left; (intro wS hSw; (try dsimp only at hSw); go_simp; try with_reducible rfl); simp only [Act.put, List.setIfInBounds_toArray, List.set_cons_zero, List.set_cons_succ])
          (refine plan_take (v := ?_) rfl ?_ ?_; rotate_left; (intro wS hSw; (try dsimp only at hSw); go_simp; try with_reducible rfl); simp only [Act.put, List.setIfInBounds_toArray, List.set_cons_zero, List.set_cons_succ])
          (refine plan_take (v := ?_) rfl ?_ ?_; rotate_left; (intro wS hSw; (try dsimp only at hSw); go_simp; try with_reducible rfl); simp only [Act.put, List.setIfInBounds_toArray, List.set_cons_zero, List.set_cons_succ])
          (refine plan_take (v := ?_) rfl ?_ ?_; rotate_left; (intro wS hSw; (try dsimp only at hSw); go_simp; try with_reducible rfl); simp only [Act.put, List.setIfInBounds_toArray, List.set_cons_zero, List.set_cons_succ])
          (refine plan_take (v := ?_) rfl ?_ ?_; rotate_left; (intro wS hSw; (try dsimp only at hSw); go_simp; try with_reducible rfl); simp only [Act.put, List.setIfInBounds_toArray, List.set_cons_zero, List.set_cons_succ])
          (refine plan_take (v := ?_) rfl ?_ ?_; rotate_left; (intro wS hSw; (try dsimp only at hSw); go_simp; try with_reducible rfl); simp only [Act.put, List.setIfInBounds_toArray, List.set_cons_zero, List.set_cons_succ])
          (refine plan_take (v := ?_) rfl ?_ ?_; rotate_left; (intro wS hSw; (try dsimp only at hSw); go_simp; try with_reducible rfl); simp only [Act.put, List.setIfInBounds_toArray, List.set_cons_zero, List.set_cons_succ])
          (refine plan_take (v := ?_) rfl ?_ ?_; rotate_left; (intro wS hSw; (try dsimp only at hSw); go_simp; try with_reducible rfl); simp only [Act.put, List.setIfInBounds_toArray, List.set_cons_zero, List.set_cons_succ])
          (refine plan_take (v := ?_) rfl ?_ ?_; rotate_left; (intro wS hSw; (try dsimp only at hSw); go_simp; try with_reducible rfl); simp only [Act.put, List.setIfInBounds_toArray, List.set_cons_zero, List.set_cons_succ])
          (refine plan_take (v := ?_) rfl ?_ ?_; rotate_left; (intro wS hSw; (try dsimp only at hSw); go_simp; try with_reducible rfl); simp only [Act.put, List.setIfInBounds_toArray, List.set_cons_zero, List.set_cons_succ])
          (refine plan_take (v := ?_) rfl ?_ ?_; rotate_left; (intro wS hSw; (try dsimp only at hSw); go_simp; try with_reducible rfl); simp only [Act.put, List.setIfInBounds_toArray, List.set_cons_zero, List.set_cons_succ])
          (refine plan_take (v := ?_) rfl ?_ ?_; rotate_left; (intro wS hSw; (try dsimp only at hSw); go_simp; try with_reducible rfl); simp only [Act.put, List.setIfInBounds_toArray, List.set_cons_zero, List.set_cons_succ])
          refine plan_run rfl (fun K hK => ?_)
          go_simp
          refine (rturn_6 _ _).mono ?_
          rintro e w1 ⟨rfl, rfl⟩
          refine hK.out _ _ ⟨dk, dx⟩ ?_
          clear hK K
          try simp only [Act.put, List.setIfInBounds_toArray, List.set_cons_zero, List.set_cons_succ]
          refine plan_run rfl (fun K hK => ?_)
          go_simp
          refine (rturn_11 _ _).mono ?_
          rintro e w1 ⟨rfl, rfl⟩
          refine hK.out _ _ ⟨dk, dx⟩ ?_
          clear hK K
          try simp only [Act.put, List.setIfInBounds_toArray, List.set_cons_zero, List.set_cons_succ]
          (refine plan_take (v := ?_) rfl ?_ ?_; rotate_left; (intro wS hSw; (try dsimp only at hSw); go_simp; try with_reducible rfl); simp only [Act.put, List.setIfInBounds_toArray, List.set_cons_zero, List.set_cons_succ])
          refine plan_run rfl (fun K hK => ?_)
          go_simp
          refine (rturn_25 _ _).mono ?_
          rintro e w1 ⟨rfl, rfl⟩
          refine hK.out _ _ ⟨dk, dx⟩ ?_
          clear hK K
          try simp only [Act.put, List.setIfInBounds_toArray, List.set_cons_zero, List.set_cons_succ]
          (refine plan_take (v := ?_) rfl ?_ ?_; rotate_left; (intro wS hSw; (try dsimp only at hSw); go_simp; try with_reducible rfl); simp only [Act.put, List.setIfInBounds_toArray, List.set_cons_zero, List.set_cons_succ])
          (refine plan_take (v := ?_) rfl ?_ ?_; rotate_left; (intro wS hSw; (try dsimp only at hSw); go_simp; try with_reducible rfl); simp only [Act.put, List.setIfInBounds_toArray, List.set_cons_zero, List.set_cons_succ])
          (refine plan_take (v := ?_) rfl ?_ ?_; rotate_left; (intro wS hSw; (try dsimp only at hSw); go_simp; try with_reducible rfl); simp only [Act.put, List.setIfInBounds_toArray, List.set_cons_zero, List.set_cons_succ])
          (refine plan_take (v := ?_) rfl ?_ ?_; rotate_left; (intro wS hSw; (try dsimp only at hSw); go_simp; try with_reducible rfl); simp only [Act.put, List.setIfInBounds_toArray, List.set_cons_zero, List.set_cons_succ])
          (refine plan_take (v := ?_) rfl ?_ ?_; rotate_left; (intro wS hSw; (try dsimp only at hSw); go_simp; try with_reducible rfl); simp only [Act.put, List.setIfInBounds_toArray, List.set_cons_zero, List.set_cons_succ])
          refine plan_nil ?_
          go_wp2_with fail
          refine NoPanic.normal ?_
          go_wp2_with fail
          refine (rturn_2 _ _).mono ?_
          rintro e w1 ⟨rfl, rfl⟩
          go_wp2_with fail
          refine (rturn_13 _ _).mono ?_
          rintro e w1 ⟨rfl, rfl⟩
          go_wp2_with fail
          refine (rturn_22 _ _).mono ?_
          rintro e w1 ⟨rfl, rfl⟩
          go_wp2_with fail
          go_roundg (gk - 1)
          case measure => omega
          case rel => exact ⟨j + 1, by omega, by rw [HR.out]; rfl, by rw [HR.out]; rfl, by rw [HR.out]; rfl, by rw [HR.out]; rfl, by rw [HR.out]; rfl, by rw [HR.out]; rfl, by rw [HR.out]; rfl, by rw [HR.out]; rfl, by go_num, HB.out.drewN _⟩
        · obtain rfl : j = 64 := by omega
          have hd : decide (((64 : Nat) : Int) < 64) = false := by decide
          have d0 := HB.out.b0.word 0 (by omega)
          have d1 := HB.out.b0.word 1 (by omega)
          have d2 := HB.out.b0.word 2 (by omega)
          have d3 := HB.out.b0.word 3 (by omega)
          have d4 := HB.out.b0.word 4 (by omega)
          have d5 := HB.out.b0.word 5 (by omega)
          have d6 := HB.out.b0.word 6 (by omega)
          have d7 := HB.out.b0.word 7 (by omega)
          generalize rndF h wd 64 = x at *
          have HRW : Hid (vw 8 RES = #[.int .u32 (n32 (h 0 + x 0)), .int .u32 (n32 (h 1 + x 1)), .int .u32 (n32 (h 2 + x 2)), .int .u32 (n32 (h 3 + x 3)), .int .u32 (n32 (h 4 + x 4)), .int .u32 (n32 (h 5 + x 5)), .int .u32 (n32 (h 6 + x 6)), .int .u32 (n32 (h 7 + x 7))]) := by show _ = _; rw [HW.out]; exact vw_addUp h x
          clear HW
          have HB2 : Hid (Blk (wr.setRow (w.heap.size + 1) (vw 8 RES)) (w.heap.size + 1) 138 (vw 8 RES)) := HB.out.b1.row _
          go_wp2_with (refine wpList_store_row rfl 138 (.tmp 6) (.tmp 216) (by rfl) (w.heap.size + 1) (vw 8 RES) (by rfl) (by rw [HRW.out]; rfl) 138 _ HB.out.b1 (by rw [vw_size]; exact info138) (by rw [vw_size, vw_size]) (vw_one _ _) ?_)
          refine bodyPost_ret (results_cell_row (fn := Tryz.f73) rfl _ _ (w.heap.size + 1) 138 (vw 8 RES) (0, 0) _ (by rfl) HB2.out Tryz.underlying138 rfl (by rw [vw_size]; exact info138)) rfl ?_
          exact ⟨rfl, below_setRow HB.out.hb (by omega) _⟩

end Go.Proofs.YtimpjlnbbdfehaaGreatDoor
namespace Go.Proofs.YtimpjlnbbdfehaaGreatDoor
open Go.RowKit Go.Shelf Go.Lib Go.Sort
set_option linter.unusedVariables false
attribute [local go_sem ↓] shr_32_1 shl_32_1 shr_32_2 shl_32_2 shr_32_3 shl_32_3 shr_32_4 shl_32_4 shr_32_5 shl_32_5 shr_32_6 shl_32_6 shr_32_7 shl_32_7 shr_32_8 shl_32_8 shr_32_9 shl_32_9 shr_32_10 shl_32_10 shr_32_11 shl_32_11 shr_32_12 shl_32_12 shr_32_13 shl_32_13 shr_32_14 shl_32_14 shr_32_15 shl_32_15 shr_32_16 shl_32_16 shr_32_17 shl_32_17 shr_32_18 shl_32_18 shr_32_19 shl_32_19 shr_32_20 shl_32_20 shr_32_21 shl_32_21 shr_32_22 shl_32_22 shr_32_23 shl_32_23 shr_32_24 shl_32_24 shr_32_25 shl_32_25 shr_32_26 shl_32_26 shr_32_27 shl_32_27 shr_32_28 shl_32_28 shr_32_29 shl_32_29 shr_32_30 shl_32_30 shr_32_31 shl_32_31 shr_64_3 shl_64_3 shr_64_7 shl_64_7 shr_64_8 shl_64_8 shr_64_16 shl_64_16 shr_64_24 shl_64_24 shr_64_32 shl_64_32 shr_64_40 shl_64_40 shr_64_48 shl_64_48 shr_64_56 shl_64_56
attribute [local go_sem] add_u32 add_u64 and_u8 or_u8 xor_u8 and_u32 or_u32 xor_u32 and_u64 or_u64 xor_u64 conv_32_8 conv_64_8 conv_64_32 conv_8_32 conv_8_64 conv_32_64

theorem rem_n32 (x : UInt32) : (n32 x).tmod 256 = n8 (b8 x) := by
  unfold n32 n8
  rw [Int.tmod_eq_emod_of_nonneg (by omega)]
  show _ = ((x.toUInt8.toNat : Nat) : Int)
  rw [UInt32.toNat_toUInt8]
  omega
theorem mod_n8 (x : UInt8) : n8 x % 4294967296 = n8 x := by unfold n8; have := x.toNat_lt; omega
theorem mod_n8b (x : UInt8) : n8 x % 256 = n8 x := by unfold n8; have := x.toNat_lt; omega
theorem wrap_n8 (x : UInt8) : IntKind.u32.wrap (n8 x) = n8 x := by rw [wrap_u32, mod_n8]
theorem wrap_n8b (x : UInt8) : IntKind.u8.wrap (n8 x) = n8 x := by rw [wrap_u8, mod_n8b]
theorem conv_word4 (a b c d : UInt8) (w : World) : (convert 57 9 (.slice (some ⟨w.heap.size, 0, none⟩) 4 4)).run Tryz.prog (w.alloc (.cells #[.int .u8 (n8 a), .int .u8 (n8 b), .int .u8 (n8 c), .int .u8 (n8 d)] 5)) = .ok (.string ⟨#[a, b, c, d]⟩) (w.alloc (.cells #[.int .u8 (n8 a), .int .u8 (n8 b), .int .u8 (n8 c), .int .u8 (n8 d)] 5)) := by
  have := conv_cells (w := w.alloc (.cells #[.int .u8 (n8 a), .int .u8 (n8 b), .int .u8 (n8 c), .int .u8 (n8 d)] 5)) (a := ⟨w.heap.size, 0, none⟩) (cap := 4) [a, b, c, d] (by
    obtain ⟨ad, e, h⟩ := row_cells w [.int .u8 (n8 a), .int .u8 (n8 b), .int .u8 (n8 c), .int .u8 (n8 d)] 5 (by simp)
    injection e with e
    subst e
    exact h)
  exact this
attribute [local go_sem] mod_n32 wrap_n32 rem_n32 mod_n8 mod_n8b wrap_n8 wrap_n8b
/-- What a papers' sum holds. -/
structure UC (w : World) (g gs : Nat) (f : Nat → UInt32) (y : World) : Prop where
  b0 : Blk y g 138 (vw 8 f)
  bs : Blk y gs 33 (vw 64 saltF)
  hb : Below w.heap.size w y
set_option maxHeartbeats 4000000 in
set_option maxRecDepth 100000 in
theorem rSum_ok (s : ByteArray) (hs : s.size ≤ 1000000) (w : World) :
    Calls Tryz.prog 20 #[.string s] w fun e w' => e = .returned (.string (sumB s)) ∧ Below w.heap.size w w' := by
  have HFI := Lib.hid (fun w => rfilled_ok s hs w)
  have HWI := Lib.hid rwords_ok
  have HKN := Lib.hid rknown_ok
  have hfl := filledL_len s.data.toList
  rw [← filledB_size] at hfl
  have hss : s.data.toList.length = s.size := by simp
  rw [hss] at hfl
  have HR : Hid (sumB s = ⟨(sumL (sumW (filledB s) ((filledB s).size / 64)) 8).toArray⟩) := rfl
  clear hss
  generalize sumB s = RES at *
  generalize filledB s = t at *
  obtain ⟨N, hN⟩ : ∃ N, t.size = 64 * N := ⟨t.size / 64, by omega⟩
  have HN := Lib.hid hN
  rw [show t.size / 64 = N by omega] at HR
  have HNB : Hid (64 * N ≤ 1000072) := by show _ ≤ _; omega
  clear hN hfl
  go_enter Tryz.func20, Tryz.ntmps20
  go_wp2_with fail
  refine (HFI.out _).mono ?_
  rintro e w1 ⟨rfl, hb⟩
  have HB1 := Lib.hid hb
  clear hb
  go_wp2_with fail
  refine (HKN.out _).mono ?_
  rintro e w2 ⟨rfl, hb⟩
  have hg : w2.heap.size = w1.heap.size + 1 := by rw [hb]; simp
  have HS2 : Hid (Blk w2 w1.heap.size 33 (vw 64 saltF)) := by show Blk _ _ _ _; rw [hb]; exact Blk.new _ _ _
  have HB2 : Hid (Below w.heap.size w w2) := by show Below _ _ _; rw [hb]; exact HB1.out.alloc HB1.out.size _
  have HG1 : Hid (w.heap.size ≤ w1.heap.size) := HB1.out.size
  have HGN : Hid (w2.heap.size ≠ w1.heap.size) := by show _ ≠ _; omega
  clear hb hg HB1
  generalize w1.heap.size = gs at *
  have e0 : (vw 8 fun _ => 0) = #[.int .u32 0, .int .u32 0, .int .u32 0, .int .u32 0, .int .u32 0, .int .u32 0, .int .u32 0, .int .u32 0] := by rfl
  have HA0 : Hid (Blk (w2.alloc (.cells (vw 8 fun _ => 0) 138)) w2.heap.size 138 (vw 8 fun _ => 0)) := Blk.new w2 138 _
  have HU0 : Hid (UC w w2.heap.size gs (sumW t 0) ((w2.alloc (.cells (vw 8 fun _ => 0) 138)).setRow w2.heap.size (vw 8 sha0))) := ⟨HA0.out.row _, (HS2.out.alloc _).farRow HGN.out.symm _, below_setRow (HB2.out.alloc HB2.out.size _) HB2.out.size _⟩
  have HG : Hid (w.heap.size ≤ w2.heap.size) := HB2.out.size
  rw [e0] at HA0 HU0
  go_wp2_with (refine wpList_store_row rfl 138 (.tmp 4) (.tmp 12) (by rfl) w2.heap.size (vw 8 sha0) (by rfl) (by rfl) 138 _ HA0.out info138 (by rw [vw_size]; rfl) (vw_one _ _) ?_)
  clear HA0 e0 HB2 HFI HKN HS2
  generalize w2.heap.size = g at *
  generalize (w2.alloc (.cells #[.int .u32 0, .int .u32 0, .int .u32 0, .int .u32 0, .int .u32 0, .int .u32 0, .int .u32 0, .int .u32 0] 138)).setRow g (vw 8 sha0) = w3 at *
  go_loopg [6] N (fun q i wr => ∃ (j : Nat), q + j = N ∧ i = .int .i64 (64 * (j : Int)) ∧ UC w g gs (sumW t j) wr)
  case atStart => exact ⟨0, rfl, rfl, HU0.out⟩
  case round =>
    obtain ⟨j, hj, rfl, hb⟩ := hrel
    have HU := Lib.hid hb
    clear hb HU0
    have htn : (t.size : Int) = 64 * (N : Int) := by have := HN.out; omega
    by_cases hlt : j < N
    · have hd : decide (64 * (j : Int) < 64 * (N : Int)) = true := by simp; omega
      have hsl := fun w => slice_mid t (64 * j) (64 * j + 64) (64 * (j : Int)) (64 * (j : Int) + 64) (by omega) (by omega) (by omega) (by rw [HN.out]; omega) w
      have HXS : Hid ((t.extract (64 * j) (64 * j + 64)).size = 64) := by show _ = _; rw [ByteArray.size_extract, HN.out]; omega
      have HS : Hid (sumW t (j + 1) = withF (sumW t j) (t.extract (64 * j) (64 * j + 64))) := rfl
      have wk := wrap_i64_pos (64 * (j : Int) + 64) (by omega) (by have := HNB.out; omega)
      generalize t.extract (64 * j) (64 * j + 64) = x at *
      generalize sumW t j = f at *
      go_wp2_with fail
      refine wp_region_plan (fun w' => Blk w' g 138 (vw 8 f)) 8 [(true, 0), (true, 1), (true, 2), (true, 3), (true, 4), (true, 5), (true, 6), (false, 7)] (by kernel_rfl) (by kernel_rfl) HU.out.b0 ?_
      simp only [List.map_cons, List.map_nil, List.getD_cons_zero, List.getD_cons_succ, List.drop_succ_cons, List.drop_zero]
      (refine plan_take (v := ?_) rfl ?_ ?_; rotate_left; (intro wS hSw; (try dsimp only at hSw); (refine exec_load_row 138 (.tmp 4) ?_ g ?_ 138 (vw 8 f) (0, 0) _ hSw Tryz.underlying138 rfl (by rw [vw_size]; exact info138) <;> rfl)); simp only [Act.put, List.setIfInBounds_toArray, List.set_cons_zero, List.set_cons_succ])
      (refine plan_take (v := ?_) rfl ?_ ?_; rotate_left; (intro wS hSw; (try dsimp only at hSw); go_simp; try with_reducible rfl); simp only [Act.put, List.setIfInBounds_toArray, List.set_cons_zero, List.set_cons_succ])
      (refine plan_take (v := ?_) rfl ?_ ?_; rotate_left; (intro wS hSw; (try dsimp only at hSw); go_simp; try with_reducible rfl); simp only [Act.put, List.setIfInBounds_toArray, List.set_cons_zero, List.set_cons_succ])
      (refine plan_take (v := ?_) rfl ?_ ?_; rotate_left; (intro wS hSw; (try dsimp only at hSw); go_simp; try with_reducible rfl); simp only [Act.put, List.setIfInBounds_toArray, List.set_cons_zero, List.set_cons_succ])
      (refine plan_take (v := ?_) rfl ?_ ?_; rotate_left; (intro wS hSw; (try dsimp only at hSw); go_simp; try with_reducible rfl); simp only [Act.put, List.setIfInBounds_toArray, List.set_cons_zero, List.set_cons_succ])
      (refine plan_take (v := ?_) rfl ?_ ?_; rotate_left; (intro wS hSw; (try dsimp only at hSw); go_simp; try with_reducible rfl); simp only [Act.put, List.setIfInBounds_toArray, List.set_cons_zero, List.set_cons_succ])
      (refine plan_take (v := ?_) rfl ?_ ?_; rotate_left; (intro wS hSw; (try dsimp only at hSw); go_simp; try with_reducible rfl); simp only [Act.put, List.setIfInBounds_toArray, List.set_cons_zero, List.set_cons_succ])
      refine plan_run rfl (fun K hK => ?_)
      go_simp
      refine (HWI.out f x HXS.out gs _ (HU.out.bs.drewN 1)).mono ?_
      rintro e w4 ⟨rfl, hb⟩
      have HB4 : Hid (Below wr.heap.size wr.drew w4) := hb
      clear hb
      have HB5 : Hid (Blk w4 g 138 (vw 8 f)) := (HB4.out.block _ HU.out.b0.lt).trans HU.out.b0
      have HS5 : Hid (Blk w4 gs 33 (vw 64 saltF)) := (HB4.out.block _ HU.out.bs.lt).trans HU.out.bs
      refine hK.out _ _ HB5.out ?_
      clear hK K
      try simp only [Act.put, List.setIfInBounds_toArray, List.set_cons_zero, List.set_cons_succ]
      refine plan_nil ?_
      go_wp2_with (refine wpList_store_row rfl 138 (.tmp 4) (.tmp 27) (by rfl) g (vw 8 (withF f x)) (by rfl) (by rfl) 138 _ HB5.out (by rw [vw_size]; exact info138) (by rw [vw_size, vw_size]) (vw_one _ _) ?_)
      refine NoPanic.normal ?_
      go_wp2_with fail
      have HU6 : Hid (UC w g gs (withF f x) (w4.setRow g (vw 8 (withF f x)))) := ⟨HB5.out.row _, HS5.out.farRow HGN.out.symm _, below_setRow ((below_drewN HU.out.hb 1).trans (HB4.out.mono HU.out.hb.size)) HG.out _⟩
      go_roundg (gk - 1)
      case measure => omega
      case rel => exact ⟨j + 1, by omega, by go_num, by rw [HS.out]; exact HU6.out⟩
    · obtain rfl : j = N := by omega
      have hd : decide (64 * (j : Int) < 64 * (j : Int)) = false := by simp
      generalize sumW t j = f at *
      go_wp2_with fail
      go_loopg [7, 8] (8 : Nat) (fun q v i wr => ∃ (k : Nat), q + k = 8 ∧ i = .int .i64 (k : Int) ∧ v = .string ⟨(sumL f k).toArray⟩ ∧ Blk wr g 138 (vw 8 f) ∧ Below w.heap.size w wr)
      case atStart => exact ⟨0, rfl, rfl, rfl, HU.out.b0, HU.out.hb⟩
      case round =>
        obtain ⟨k, hk, rfl, rfl, ho, hb⟩ := hrel
        have HO := Lib.hid ho
        have HB := Lib.hid hb
        clear ho hb HU
        have HSL : Hid ((⟨(sumL f (k + 1)).toArray⟩ : ByteArray) = ⟨(sumL f k).toArray⟩ ++ ⟨#[b8 (f k >>> 24), b8 (f k >>> 16), b8 (f k >>> 8), b8 (f k)]⟩) := by
          apply ByteArray.ext
          rw [ByteArray.data_append]
          show (sumL f k ++ [b8 (f k >>> 24), b8 (f k >>> 16), b8 (f k >>> 8), b8 (f k)]).toArray = (sumL f k).toArray ++ #[b8 (f k >>> 24), b8 (f k >>> 16), b8 (f k >>> 8), b8 (f k)]
          simp
        have hll : (⟨(sumL f k).toArray⟩ : ByteArray).size = 4 * k := by
          show (sumL f k).toArray.size = 4 * k
          rw [List.size_toArray]
          exact sumL_len f k
        have hcat : ¬ 9223372036854775807 < (⟨(sumL f k).toArray⟩ : ByteArray).size + 4 := by omega
        by_cases hlt2 : k < 8
        · have hd : decide ((k : Int) < 8) = true := by simp; omega
          have bk : (k : Int) < 8 := by omega
          have nk : (0 : Int) ≤ k := by omega
          have dk := HO.out.word k hlt2
          have hq1 : (n32 (f k)).tdiv 16777216 = n32 (f k >>> 24) := div_u32 (f k) 24 (by decide) 16777216 rfl
          have hq2 : (n32 (f k)).tdiv 65536 = n32 (f k >>> 16) := div_u32 (f k) 16 (by decide) 65536 rfl
          have hq3 : (n32 (f k)).tdiv 256 = n32 (f k >>> 8) := div_u32 (f k) 8 (by decide) 256 rfl
          have hcv := fun W => conv_word4 (b8 (f k >>> 24)) (b8 (f k >>> 16)) (b8 (f k >>> 8)) (b8 (f k)) W
          have hz4 : (⟨#[b8 (f k >>> 24), b8 (f k >>> 16), b8 (f k >>> 8), b8 (f k)]⟩ : ByteArray).size = 4 := rfl
          generalize f k = x at *
          generalize (⟨(sumL f k).toArray⟩ : ByteArray) = M at *
          go_wp2_with fail
          go_roundg (gk - 1)
          case measure => omega
          case rel => exact ⟨k + 1, by omega, by go_num, by rw [HSL.out], HO.out.alloc _, HB.out.alloc HB.out.size _⟩
        · obtain rfl : k = 8 := by omega
          have hd : decide (((8 : Nat) : Int) < 8) = false := by decide
          go_wp2_with fail
          go_ret
          exact ⟨by rw [HR.out]; rfl, HB.out⟩

end Go.Proofs.YtimpjlnbbdfehaaGreatDoor
namespace Go.Proofs.YtimpjlnbbdfehaaGreatDoor
open Go.RowKit Go.Shelf Go.Lib Go.Sort
set_option linter.unusedVariables false
attribute [local go_sem ↓] shr_32_1 shl_32_1 shr_32_2 shl_32_2 shr_32_3 shl_32_3 shr_32_4 shl_32_4 shr_32_5 shl_32_5 shr_32_6 shl_32_6 shr_32_7 shl_32_7 shr_32_8 shl_32_8 shr_32_9 shl_32_9 shr_32_10 shl_32_10 shr_32_11 shl_32_11 shr_32_12 shl_32_12 shr_32_13 shl_32_13 shr_32_14 shl_32_14 shr_32_15 shl_32_15 shr_32_16 shl_32_16 shr_32_17 shl_32_17 shr_32_18 shl_32_18 shr_32_19 shl_32_19 shr_32_20 shl_32_20 shr_32_21 shl_32_21 shr_32_22 shl_32_22 shr_32_23 shl_32_23 shr_32_24 shl_32_24 shr_32_25 shl_32_25 shr_32_26 shl_32_26 shr_32_27 shl_32_27 shr_32_28 shl_32_28 shr_32_29 shl_32_29 shr_32_30 shl_32_30 shr_32_31 shl_32_31 shr_64_3 shl_64_3 shr_64_7 shl_64_7 shr_64_8 shl_64_8 shr_64_16 shl_64_16 shr_64_24 shl_64_24 shr_64_32 shl_64_32 shr_64_40 shl_64_40 shr_64_48 shl_64_48 shr_64_56 shl_64_56
attribute [local go_sem] add_u32 add_u64 and_u8 or_u8 xor_u8 and_u32 or_u32 xor_u32 and_u64 or_u64 xor_u64 conv_32_8 conv_64_8 conv_64_32 conv_8_32 conv_8_64 conv_32_64

theorem xor54 (a : UInt8) : bits .xor .u8 (n8 a) 54 = n8 (a ^^^ 54) := xor_u8 a 54
theorem xor92 (a : UInt8) : bits .xor .u8 (n8 a) 92 = n8 (a ^^^ 92) := xor_u8 a 92
attribute [local go_sem] xor54 xor92
/-- The first bytes of a key turned by one. -/
def padS (key : ByteArray) (x : UInt8) (j : Nat) : ByteArray := ⟨((padL key x 64).take j).toArray⟩
theorem padS_all (key : ByteArray) (x : UInt8) : padS key x 64 = padB key x := by
  unfold padS padB
  rw [List.take_of_length_le (by rw [padL_len]; exact Nat.le_refl _)]
theorem padS_size (key : ByteArray) (x : UInt8) (j : Nat) (h : j ≤ 64) : (padS key x j).size = j := by
  show (List.toArray _).size = j
  rw [List.size_toArray, List.length_take, padL_len]
  omega
theorem padS_succ (key : ByteArray) (x : UInt8) (j : Nat) (h : j < 64) : padS key x (j + 1) = padS key x j ++ ⟨#[gb key j ^^^ x]⟩ := by
  apply ByteArray.ext
  rw [ByteArray.data_append]
  show ((padL key x 64).take (j + 1)).toArray = ((padL key x 64).take j).toArray ++ #[gb key j ^^^ x]
  rw [List.take_add_one, List.getElem?_eq_getElem (by rw [padL_len]; exact h)]
  simp [padL, h]
theorem conv_x (c : Int) (x : UInt8) (hx : n8 x = c) (w : World) : (convert 57 9 (.slice (some ⟨w.heap.size, 0, none⟩) 1 1)).run Tryz.prog (w.alloc (.cells #[.int .u8 c] 5)) = .ok (.string ⟨#[x]⟩) (w.alloc (.cells #[.int .u8 c] 5)) := by
  subst hx
  exact conv_byte x w
theorem conv_x2 (c : Int) (x : UInt8) (hx : n8 x = c) (w : World) (o : Obj) : (convert 57 9 (.slice (some ⟨w.heap.size + 1, 0, none⟩) 1 1)).run Tryz.prog ((w.alloc o).alloc (.cells #[.int .u8 c] 5)) = .ok (.string ⟨#[x]⟩) ((w.alloc o).alloc (.cells #[.int .u8 c] 5)) := by
  have := conv_x c x hx (w.alloc o)
  simpa using this
theorem xor0_54 : bits .xor .u8 0 54 = 54 := by decide
theorem xor0_92 : bits .xor .u8 0 92 = 92 := by decide
attribute [local go_sem] xor0_54 xor0_92
set_option maxHeartbeats 4000000 in
set_option maxRecDepth 100000 in
theorem rtag_ok (key s : ByteArray) (hk : key.size ≤ 64) (hs : s.size ≤ 900000) (w : World) :
    Calls Tryz.prog 118 #[.string key, .string s] w fun e w' => e = .returned (.string (tagB key s)) ∧ Below w.heap.size w w' := by
  have HSU := Lib.hid rSum_ok
  have HR : Hid (tagB key s = sumB (padB key 92 ++ sumB (padB key 54 ++ s))) := rfl
  have hd64 : decide (64 < (key.size : Int)) = false := by simp; omega
  have HSZ := Lib.hid hs
  clear hs
  go_enter Tryz.func118, Tryz.ntmps118
  go_wp2_with fail
  go_loopg [5, 6, 7] (64 : Nat) (fun q v5 v6 v7 wr => ∃ (j : Nat), q + j = 64 ∧ v5 = .string (padS key 54 j) ∧ v6 = .string (padS key 92 j) ∧ v7 = .int .i64 (j : Int) ∧ Below w.heap.size w wr)
  case atStart => exact ⟨0, rfl, rfl, rfl, rfl, Below.refl _ _⟩
  case round =>
    obtain ⟨j, hj, rfl, rfl, rfl, hb⟩ := hrel
    have HB := Lib.hid hb
    clear hb
    by_cases hlt : j < 64
    · have hd : decide ((j : Int) < 64) = true := decide_eq_true (by omega)
      have hz1 := padS_size key 54 j (by omega)
      have hz2 := padS_size key 92 j (by omega)
      have hcat1 : ¬ 9223372036854775807 < (padS key 54 j).size + 1 := by omega
      have hcat2 : ¬ 9223372036854775807 < (padS key 92 j).size + 1 := by omega
      have HX1 := Lib.hid (padS_succ key 54 j hlt)
      have HX2 := Lib.hid (padS_succ key 92 j hlt)
      have ho1 : (⟨#[gb key j ^^^ 54]⟩ : ByteArray).size = 1 := rfl
      have ho2 : (⟨#[gb key j ^^^ 92]⟩ : ByteArray).size = 1 := rfl
      by_cases hin : j < key.size
      · have hdi : decide ((j : Int) < (key.size : Int)) = true := decide_eq_true (by omega)
        have hdi2 : decide (j < key.size) = true := decide_eq_true hin
        have hix := fun w => ix_str key j (j : Int) rfl hin w
        have hcv1 := fun W => conv_x (n8 (gb key j ^^^ 54)) (gb key j ^^^ 54) rfl W
        have hcv2 := fun W o => conv_x2 (n8 (gb key j ^^^ 92)) (gb key j ^^^ 92) rfl W o
        generalize padS key 54 j = A at *
        generalize padS key 92 j = B at *
        generalize gb key j = x at *
        go_wp2_with fail
        go_roundg (gk - 1)
        case measure => omega
        case rel => exact ⟨j + 1, by omega, by rw [HX1.out], by rw [HX2.out], by go_num, ((HB.out.alloc HB.out.size _).alloc (by simp; have := HB.out.size; omega) _)⟩
      · have hdi : decide ((j : Int) < (key.size : Int)) = false := decide_eq_false (by omega)
        have hdi2 : decide (j < key.size) = false := decide_eq_false hin
        have hg0 : gb key j = 0 := getD_size key j (by omega)
        rw [hg0] at HX1 HX2 ho1 ho2
        have hcv1 := fun W => conv_x 54 (0 ^^^ 54) rfl W
        have hcv2 := fun W o => conv_x2 92 (0 ^^^ 92) rfl W o
        generalize padS key 54 j = A at *
        generalize padS key 92 j = B at *
        generalize hp1 : (0 : UInt8) ^^^ 54 = p1 at *
        generalize hp2 : (0 : UInt8) ^^^ 92 = p2 at *
        go_wp2_with fail
        go_roundg (gk - 1)
        case measure => omega
        case rel => exact ⟨j + 1, by omega, by rw [HX1.out], by rw [HX2.out], by go_num, ((HB.out.alloc HB.out.size _).alloc (by simp; have := HB.out.size; omega) _)⟩
    · obtain rfl : j = 64 := by omega
      have hd : decide (((64 : Nat) : Int) < 64) = false := by decide
      rw [padS_all, padS_all]
      have hp1 : (padB key 54).size = 64 := by rw [← padS_all]; exact padS_size _ _ _ (by omega)
      have hp2 : (padB key 92).size = 64 := by rw [← padS_all]; exact padS_size _ _ _ (by omega)
      have hc1 : ¬ 9223372036854775807 < 64 + s.size := by have := HSZ.out; omega
      have HS1 := Lib.hid (fun w => HSU.out (padB key 54 ++ s) (by rw [size_app, hp1]; have := HSZ.out; omega) w)
      have hsz := sumB_size (padB key 54 ++ s)
      have hc2 : ¬ 9223372036854775807 < 64 + (sumB (padB key 54 ++ s)).size := by omega
      have HS2 := Lib.hid (fun w => HSU.out (padB key 92 ++ sumB (padB key 54 ++ s)) (by rw [size_app, hp2, hsz]; omega) w)
      generalize hq1 : sumB (padB key 54 ++ s) = S1 at *
      generalize padB key 54 = P1 at *
      generalize padB key 92 = P2 at *
      go_wp2_with fail
      refine (HS1.out _).mono ?_
      rintro e w1 ⟨rfl, hb1⟩
      have HB1 := Lib.hid hb1
      clear hb1
      go_wp2_with fail
      refine (HS2.out _).mono ?_
      rintro e w2 ⟨rfl, hb2⟩
      have HB2 := Lib.hid hb2
      clear hb2
      go_wp2_with fail
      go_ret
      exact ⟨by rw [HR.out]; rfl, (HB.out.trans (HB1.out.mono HB.out.size)).trans (HB2.out.mono (Nat.le_trans HB.out.size HB1.out.size))⟩
set_option maxHeartbeats 4000000 in
set_option maxRecDepth 100000 in
theorem rexpand_ok (key pu : ByteArray) (hk : key.size ≤ 64) (hp : pu.size ≤ 1000) (w : World) :
    Calls Tryz.prog 117 #[.string key, .string pu, .int .i64 64] w fun e w' => e = .returned (.string (expB key pu)) ∧ Below w.heap.size w w' := by
  have HTAG := Lib.hid (fun s hs w => rtag_ok key s hk hs w)
  have HP := Lib.hid hp
  have HR : Hid (expB key pu = outE key pu 2) := rfl
  clear hk hp
  go_enter Tryz.func117, Tryz.ntmps117
  go_wp2_with fail
  go_loopg [7, 8, 9] (2 : Nat) (fun q v la i wr => ∃ (j : Nat), q + j = 2 ∧ v = .string (outE key pu j) ∧ la = .string (lastE key pu j) ∧ i = .int .i64 ((j + 1 : Nat) : Int) ∧ Below w.heap.size w wr)
  case atStart => exact ⟨0, rfl, rfl, rfl, rfl, Below.refl _ _⟩
  case round =>
    obtain ⟨j, hj, rfl, rfl, rfl, hb⟩ := hrel
    have HB := Lib.hid hb
    clear hb
    have hos := outE_size key pu j
    by_cases hlt : j < 2
    · have hd : decide (32 * (j : Int) < 64) = true := decide_eq_true (by omega)
      have hd' : decide (32 * j < 64) = true := decide_eq_true (by omega)
      have hz0 : ¬ 9223372036854775807 < (lastE key pu j).size + pu.size := by have := lastE_size key pu j; have := HP.out; omega
      have hz1 : ¬ 9223372036854775807 < (lastE key pu j).size + pu.size + 1 := by have := lastE_size key pu j; have := HP.out; omega
      have hz2 : ¬ 9223372036854775807 < 32 * j + (lastE key pu (j + 1)).size := by have := lastE_size key pu (j + 1); omega
      have h8 : n8 (UInt8.ofNat (j + 1)) = ((j + 1 : Nat) : Int) := by
        unfold n8
        rw [UInt8.toNat_ofNat_of_lt' (by simp [UInt8.size]; omega)]
      have hcv := fun w => conv_x _ (UInt8.ofNat (j + 1)) h8 w
      have HS1 : Hid (lastE key pu (j + 1) = tagB key (lastE key pu j ++ pu ++ ⟨#[UInt8.ofNat (j + 1)]⟩)) := rfl
      have HS2 : Hid (outE key pu (j + 1) = outE key pu j ++ lastE key pu (j + 1)) := rfl
      have HT1 := Lib.hid (fun w => HTAG.out (lastE key pu j ++ pu ++ ⟨#[UInt8.ofNat (j + 1)]⟩) (by rw [size_app, size_app, size_one]; have := lastE_size key pu j; have := HP.out; omega) w)
      rw [← HS1.out] at HT1
      have hc1 : (⟨#[UInt8.ofNat (j + 1)]⟩ : ByteArray).size = 1 := rfl
      have hwr8 : ((j + 1 : Nat) : Int) % 256 = ((j + 1 : Nat) : Int) := by omega
      have hwr8' : IntKind.u8.wrap ((j + 1 : Nat) : Int) = ((j + 1 : Nat) : Int) := by rw [wrap_u8]; omega
      have hwr : IntKind.i64.wrap (((j + 1 : Nat) : Int) + 1) = ((j + 1 + 1 : Nat) : Int) := wrap_in _ (by omega) (by omega)
      have hwr2 : wrap64 (((j + 1 : Nat) : Int) + 1) = ((j + 1 + 1 : Nat) : Int) := w64_small _ (by omega) (by omega)
      generalize ((j + 1 : Nat) : Int) = J at *
      generalize (⟨#[UInt8.ofNat (j + 1)]⟩ : ByteArray) = c at *
      generalize hL : lastE key pu (j + 1) = t at *
      have HLt := Lib.hid hL
      clear hL
      generalize lastE key pu j = la at *
      generalize outE key pu j = M at *
      go_wp2_with fail
      refine (HT1.out _).mono ?_
      rintro e w1 ⟨rfl, hb⟩
      have HB1 := Lib.hid ((HB.out.alloc HB.out.size _).trans (hb.mono (Nat.le_trans HB.out.size (by simp))))
      clear hb
      go_wp2_with fail
      go_roundg (gk - 1)
      case measure => omega
      case rel => exact ⟨j + 1, by omega, by rw [HS2.out], by rw [HLt.out], by first | rw [hwr] | rw [hwr2] | rfl, HB1.out⟩
    · obtain rfl : j = 2 := by omega
      have hsl := fun w => slice_to (outE key pu 2) 64 64 rfl (by rw [outE_size]; omega) w
      have HE : Hid ((outE key pu 2).extract 0 64 = expB key pu) := by
        show _ = outE key pu 2
        have := outE_size key pu 2
        rw [show (64 : Nat) = (outE key pu 2).size by rw [this]]
        simp
      rw [HE.out] at hsl
      generalize outE key pu 2 = M at *
      go_wp2_with fail
      go_ret
      exact ⟨rfl, HB.out⟩
set_option maxHeartbeats 4000000 in
set_option maxRecDepth 100000 in
theorem rkeys_ok (m : ByteArray) (e : UInt32) (hm : m.size ≤ 900000) (w : World) :
    Calls Tryz.prog 75 #[.string m, .int .u32 (n32 e)] w fun x w' => x = .returned (.tuple #[.string (keyB m e), .string (macB m e)]) ∧ Below w.heap.size w w' := by
  have HX := Lib.hid (fun w => rtag_ok nameB m (by show 9 ≤ 64; omega) hm w)
  have hh := fun w => rhigh_ok e.toNat (by have := e.toNat_lt; omega) 4 (by omega) w
  rw [← be4_hi] at hh
  have HH := Lib.hid hh
  clear hh
  have hcat : ¬ 9223372036854775807 < 5 + (be4 e).size := by rw [be4_size]; omega
  have HE := Lib.hid (fun w => rexpand_ok (tagB nameB m) (epochB ++ be4 e) (by rw [tagB_size]; omega) (by rw [size_app, be4_size]; show 5 + 4 ≤ 1000; omega) w)
  have HKB : Hid (keysB m e = expB (tagB nameB m) (epochB ++ be4 e)) := rfl
  rw [← HKB.out] at HE
  have hsz := keysB_size m e
  have HV : Hid (macB m e = (keysB m e).extract 32 64) := by show _ = _; unfold macB; rw [keysB_size]
  have HV0 : Hid (keyB m e = (keysB m e).extract 0 32) := rfl
  have HEP : Hid (epochB = ⟨#[101, 112, 111, 99, 104]⟩) := rfl
  have HNB : Hid (nameB = ⟨#[108, 111, 100, 101, 115, 116, 111, 110, 101]⟩) := rfl
  have h64 : IntKind.u64.wrap (n32 e) = (e.toNat : Int) := by rw [wrap_u64]; unfold n32; have := e.toNat_lt; omega
  have h64' : n32 e % 18446744073709551616 = (e.toNat : Int) := by unfold n32; have := e.toNat_lt; omega
  have hs1 := fun w => slice_to (keysB m e) 32 32 rfl (by omega) w
  have hs2 : ∀ w, (Instr.slice 9 (.string (keysB m e)) (some (.int .i64 32)) none none).run Tryz.prog w = .ok (.string ((keysB m e).extract 32 64)) w := fun w => by
    have := slice_from (keysB m e) 32 32 rfl (by omega) w
    rwa [hsz] at this
  clear hm
  rw [HV.out, HV0.out]
  generalize keysB m e = kb at *
  generalize tagB nameB m = prk at *
  generalize be4 e = b4 at *
  rw [HNB.out] at HX
  rw [HEP.out] at HE
  go_enter Tryz.func75, Tryz.ntmps75
  go_wp2_with fail
  refine (HX.out _).mono ?_
  rintro x w1 ⟨rfl, hb⟩
  have HB1 := Lib.hid hb
  clear hb
  go_wp2_with fail
  refine (HH.out _).mono ?_
  rintro x w2 ⟨rfl, hb⟩
  have HB2 := Lib.hid (HB1.out.trans (hb.mono HB1.out.size))
  clear hb HB1
  go_wp2_with fail
  refine (HE.out _).mono ?_
  rintro x w3 ⟨rfl, hb⟩
  have HB3 := Lib.hid (HB2.out.trans (hb.mono HB2.out.size))
  clear hb HB2
  go_wp2_with fail
  refine wp_region_plan (fun w' => True) 5 [(true, 0), (true, 1), (true, 2), (true, 3), (true, 4)] (by kernel_rfl) (by kernel_rfl) trivial ?_
  simp only [List.map_cons, List.map_nil, List.getD_cons_zero, List.getD_cons_succ, List.drop_succ_cons, List.drop_zero]
  (refine plan_take (v := ?_) rfl ?_ ?_; rotate_left; (intro wS hSw; (try dsimp only at hSw); go_simp; try with_reducible rfl); simp only [Act.put, List.setIfInBounds_toArray, List.set_cons_zero, List.set_cons_succ])
  (refine plan_take (v := ?_) rfl ?_ ?_; rotate_left; (intro wS hSw; (try dsimp only at hSw); go_simp; try with_reducible rfl); simp only [Act.put, List.setIfInBounds_toArray, List.set_cons_zero, List.set_cons_succ])
  (refine plan_take (v := ?_) rfl ?_ ?_; rotate_left; (intro wS hSw; (try dsimp only at hSw); go_simp; try with_reducible rfl); simp only [Act.put, List.setIfInBounds_toArray, List.set_cons_zero, List.set_cons_succ])
  (refine plan_take (v := ?_) rfl ?_ ?_; rotate_left; (intro wS hSw; (try dsimp only at hSw); go_simp; try with_reducible rfl); simp only [Act.put, List.setIfInBounds_toArray, List.set_cons_zero, List.set_cons_succ])
  (refine plan_take (v := ?_) rfl ?_ ?_; rotate_left; (intro wS hSw; (try dsimp only at hSw); go_simp; try with_reducible rfl); simp only [Act.put, List.setIfInBounds_toArray, List.set_cons_zero, List.set_cons_succ])
  refine plan_nil ?_
  go_wp2_with fail
  refine NoPanic.normal ?_
  go_wp2_with fail
  go_ret2
  exact ⟨rfl, below_drewN HB3.out 1⟩

end Go.Proofs.YtimpjlnbbdfehaaGreatDoor
