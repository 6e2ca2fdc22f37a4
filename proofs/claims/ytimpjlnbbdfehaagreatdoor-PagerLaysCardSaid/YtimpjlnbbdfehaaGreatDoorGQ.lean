import Derived.Test.YtimpjlnbbdfehaaGreatDoorGP
import Derived.Test.YtimpjlnbbdfehaaGreatDoorGI
namespace Go.Proofs.YtimpjlnbbdfehaaGreatDoor
open Go.RowKit Go.Shelf Go.Lib Go.Sort
set_option linter.unusedVariables false
attribute [local go_sem ↓] shr_32_1 shl_32_1 shr_32_2 shl_32_2 shr_32_3 shl_32_3 shr_32_4 shl_32_4 shr_32_5 shl_32_5 shr_32_6 shl_32_6 shr_32_7 shl_32_7 shr_32_8 shl_32_8 shr_32_9 shl_32_9 shr_32_10 shl_32_10 shr_32_11 shl_32_11 shr_32_12 shl_32_12 shr_32_13 shl_32_13 shr_32_14 shl_32_14 shr_32_15 shl_32_15 shr_32_16 shl_32_16 shr_32_17 shl_32_17 shr_32_18 shl_32_18 shr_32_19 shl_32_19 shr_32_20 shl_32_20 shr_32_21 shl_32_21 shr_32_22 shl_32_22 shr_32_23 shl_32_23 shr_32_24 shl_32_24 shr_32_25 shl_32_25 shr_32_26 shl_32_26 shr_32_27 shl_32_27 shr_32_28 shl_32_28 shr_32_29 shl_32_29 shr_32_30 shl_32_30 shr_32_31 shl_32_31 shr_64_3 shl_64_3 shr_64_7 shl_64_7 shr_64_8 shl_64_8 shr_64_16 shl_64_16 shr_64_24 shl_64_24 shr_64_32 shl_64_32 shr_64_40 shl_64_40 shr_64_48 shl_64_48 shr_64_56 shl_64_56
attribute [local go_sem] add_u32 add_u64 and_u8 or_u8 xor_u8 and_u32 or_u32 xor_u32 and_u64 or_u64 xor_u64 conv_32_8 conv_64_8 conv_64_32 conv_8_32 conv_8_64 conv_32_64

/-- The mixing of four words, round by round. -/
def qSt (f : Nat → UInt32) (a b c d : Nat) : Nat → (Nat → UInt32)
  | 0 => f
  | 1 => rotW (addW f a b) d a 16 16
  | 2 => rotW (addW (rotW (addW f a b) d a 16 16) c d) b c 12 20
  | 3 => rotW (addW (rotW (addW (rotW (addW f a b) d a 16 16) c d) b c 12 20) a b) d a 8 24
  | _ => rotW (addW (rotW (addW (rotW (addW (rotW (addW f a b) d a 16 16) c d) b c 12 20) a b) d a 8 24) c d) b c 7 25
theorem qSt_all (f : Nat → UInt32) (a b c d : Nat) : qSt f a b c d 4 = quarterF f a b c d := rfl
theorem info272 : (Tryz.prog.info? 272).map (·.size) = some 16 := by kernel_rfl
/-- Within the rounds. -/
structure QB4 (w wr : World) (F : Nat → UInt32) : Prop where
  b0 : Blk wr w.heap.size 272 (vw 16 F)
  b1 : Blk wr (w.heap.size + 1) 272 (vw 16 fun _ => 0)
  b2 : Blk wr (w.heap.size + 1 + 1) 46 #[.int .u64 16, .int .u64 12, .int .u64 8, .int .u64 7]
  hb : Below w.heap.size w wr
theorem QB4.drew {w wr : World} {F : Nat → UInt32} (h : QB4 w wr F) : QB4 w wr.drew F := ⟨h.b0.drewN 1, h.b1.drewN 1, h.b2.drewN 1, below_drewN h.hb 1⟩
theorem QB4.set {w wr : World} {F : Nat → UInt32} (h : QB4 w wr F) (i : Nat) (x : UInt32) : QB4 w (wr.setCell ⟨w.heap.size, i, none⟩ (.int .u32 (n32 x))) (upd F i x) :=
  ⟨h.b0.setw i x, h.b1.far (by show _ ≠ _; simp) _, h.b2.far (by show _ ≠ _; dsimp only; omega) _, h.hb.setCell (p := ⟨w.heap.size, i, none⟩) (Nat.le_refl _) _⟩
set_option maxHeartbeats 4000000 in
set_option maxRecDepth 100000 in
theorem rquarter_ok (f : Nat → UInt32) (a b c d : Nat) (ha : a < 16) (hb : b < 16) (hc : c < 16) (hd : d < 16) (w : World) :
    Calls Tryz.prog 197 #[.agg (vw 16 f), .int .i64 (a : Int), .int .i64 (b : Int), .int .i64 (c : Int), .int .i64 (d : Int)] w fun e w' => e = .returned (.agg (vw 16 (quarterF f a b c d))) ∧ Below w.heap.size w w' := by
  have la : (a : Int) < 16 := by omega
  have lb : (b : Int) < 16 := by omega
  have lc : (c : Int) < 16 := by omega
  have ld : (d : Int) < 16 := by omega
  go_enter Tryz.func197, Tryz.ntmps197
  go_wp2_with fail
  have H0 : Hid (QB4 w (((w.alloc (.cells (vw 16 f) 272)).alloc (.cells (vw 16 fun _ => 0) 272)).alloc (.cells #[.int .u64 16, .int .u64 12, .int .u64 8, .int .u64 7] 46)) f) :=
    ⟨((Blk.new w 272 _).alloc _).alloc _, (blk_new1 w _ 272 _).alloc _, by have := Blk.new ((w.alloc (.cells (vw 16 f) 272)).alloc (.cells (vw 16 fun _ => 0) 272)) 46 #[.int .u64 16, .int .u64 12, .int .u64 8, .int .u64 7]; simpa using this, (((Below.refl _ _).alloc (Nat.le_refl _) _).alloc (by simp) _).alloc (by simp; omega) _⟩
  go_loopg [12] 4 (fun q v wr => ∃ (j : Nat), q + j = 4 ∧ v = .int .i64 (j : Int) ∧ QB4 w wr (qSt f a b c d j))
  case atStart => exact ⟨0, rfl, rfl, H0.out⟩
  case round =>
    obtain ⟨j, hj, rfl, hq⟩ := hrel
    have HQ := Lib.hid hq
    clear hq H0
    have a0 : (0 : Int) ≤ (a : Int) := by omega
    have b0 : (0 : Int) ≤ (b : Int) := by omega
    have c0 : (0 : Int) ≤ (c : Int) := by omega
    have d0 : (0 : Int) ≤ (d : Int) := by omega
    have hjj : j = 0 ∨ j = 1 ∨ j = 2 ∨ j = 3 ∨ j = 4 := by omega
    rcases hjj with rfl | rfl | rfl | rfl | rfl
    · have HF : Hid (qSt f a b c d 1 = rotW (addW (qSt f a b c d 0) a b) d a 16 16) := rfl
      generalize qSt f a b c d 0 = F at *
      have e1 := HQ.out.drew.b0.word a ha
      have e2 := HQ.out.drew.b0.word b hb
      have ef := HQ.out.drew.b0.frozen a
      go_wp2_with fail
      refine wp_region_plan (fun w' => w'.cell? ⟨w.heap.size, a, none⟩ = some (.int .u32 (n32 (F a))) ∧ w'.cell? ⟨w.heap.size, b, none⟩ = some (.int .u32 (n32 (F b)))) 8 [(true, 0), (true, 1), (true, 2), (true, 3), (true, 4), (true, 5), (true, 6), (true, 7)] (by kernel_rfl) (by kernel_rfl) ⟨e1, e2⟩ ?_
      simp only [List.map_cons, List.map_nil, List.getD_cons_zero, List.getD_cons_succ, List.drop_succ_cons, List.drop_zero]
      (refine plan_take (v := ?_) rfl ?_ ?_; rotate_left; (rintro wS ⟨hS1, hS2⟩; (try dsimp only at hS1 hS2); go_simp; try with_reducible rfl); simp only [Act.put, List.setIfInBounds_toArray, List.set_cons_zero, List.set_cons_succ])
      (refine plan_take (v := ?_) rfl ?_ ?_; rotate_left; (rintro wS ⟨hS1, hS2⟩; (try dsimp only at hS1 hS2); go_simp; try with_reducible rfl); simp only [Act.put, List.setIfInBounds_toArray, List.set_cons_zero, List.set_cons_succ])
      (refine plan_take (v := ?_) rfl ?_ ?_; rotate_left; (rintro wS ⟨hS1, hS2⟩; (try dsimp only at hS1 hS2); go_simp; try with_reducible rfl); simp only [Act.put, List.setIfInBounds_toArray, List.set_cons_zero, List.set_cons_succ])
      (refine plan_take (v := ?_) rfl ?_ ?_; rotate_left; (rintro wS ⟨hS1, hS2⟩; (try dsimp only at hS1 hS2); go_simp; try with_reducible rfl); simp only [Act.put, List.setIfInBounds_toArray, List.set_cons_zero, List.set_cons_succ])
      (refine plan_take (v := ?_) rfl ?_ ?_; rotate_left; (rintro wS ⟨hS1, hS2⟩; (try dsimp only at hS1 hS2); go_simp; try with_reducible rfl); simp only [Act.put, List.setIfInBounds_toArray, List.set_cons_zero, List.set_cons_succ])
      (refine plan_take (v := ?_) rfl ?_ ?_; rotate_left; (rintro wS ⟨hS1, hS2⟩; (try dsimp only at hS1 hS2); go_simp; try with_reducible rfl); simp only [Act.put, List.setIfInBounds_toArray, List.set_cons_zero, List.set_cons_succ])
      (refine plan_take (v := ?_) rfl ?_ ?_; rotate_left; (rintro wS ⟨hS1, hS2⟩; (try dsimp only at hS1 hS2); go_simp; try with_reducible rfl); simp only [Act.put, List.setIfInBounds_toArray, List.set_cons_zero, List.set_cons_succ])
      (refine plan_take (v := ?_) rfl ?_ ?_; rotate_left; (rintro wS ⟨hS1, hS2⟩; (try dsimp only at hS1 hS2); go_simp; try with_reducible rfl); simp only [Act.put, List.setIfInBounds_toArray, List.set_cons_zero, List.set_cons_succ])
      refine plan_nil ?_
      go_wp2_with fail
      refine NoPanic.normal ?_
      go_wp2_with fail
      have H2 := Lib.hid (HQ.out.set a (F a + F b)).drew.drew
      have hF1 : upd F a (F a + F b) = addW F a b := rfl
      rw [hF1] at H2
      generalize addW F a b = F1 at *
      have e3 := H2.out.b0.word d hd
      have e4 := H2.out.b0.word a ha
      have e5 : (World.cell? _ ⟨w.heap.size + 1 + 1, 0, none⟩) = some (.int .u64 16) := H2.out.b2.cell 0
      have ef2 := H2.out.b0.frozen d
      refine wp_region_plan (fun w' => w'.cell? ⟨w.heap.size, d, none⟩ = some (.int .u32 (n32 (F1 d))) ∧ w'.cell? ⟨w.heap.size, a, none⟩ = some (.int .u32 (n32 (F1 a))) ∧ w'.cell? ⟨w.heap.size + 1 + 1, 0, none⟩ = some (.int .u64 16)) 14 [(true, 0), (true, 1), (true, 2), (true, 3), (true, 4), (true, 5), (true, 6), (true, 7), (true, 8), (true, 9), (true, 10), (true, 11), (false, 12), (true, 13)] (by kernel_rfl) (by kernel_rfl) ⟨e3, e4, e5⟩ ?_
      simp only [List.map_cons, List.map_nil, List.getD_cons_zero, List.getD_cons_succ, List.drop_succ_cons, List.drop_zero]
      (refine plan_take (v := ?_) rfl ?_ ?_; rotate_left; (rintro wS ⟨hS1, hS2, hS3⟩; (try dsimp only at hS1 hS2 hS3); go_simp; try with_reducible rfl); simp only [Act.put, List.setIfInBounds_toArray, List.set_cons_zero, List.set_cons_succ])
      (refine plan_take (v := ?_) rfl ?_ ?_; rotate_left; (rintro wS ⟨hS1, hS2, hS3⟩; (try dsimp only at hS1 hS2 hS3); go_simp; try with_reducible rfl); simp only [Act.put, List.setIfInBounds_toArray, List.set_cons_zero, List.set_cons_succ])
      (refine plan_take (v := ?_) rfl ?_ ?_; rotate_left; (rintro wS ⟨hS1, hS2, hS3⟩; (try dsimp only at hS1 hS2 hS3); go_simp; try with_reducible rfl); simp only [Act.put, List.setIfInBounds_toArray, List.set_cons_zero, List.set_cons_succ])
      (refine plan_take (v := ?_) rfl ?_ ?_; rotate_left; (rintro wS ⟨hS1, hS2, hS3⟩; (try dsimp only at hS1 hS2 hS3); go_simp; try with_reducible rfl); simp only [Act.put, List.setIfInBounds_toArray, List.set_cons_zero, List.set_cons_succ])
      (refine plan_take (v := ?_) rfl ?_ ?_; rotate_left; (rintro wS ⟨hS1, hS2, hS3⟩; (try dsimp only at hS1 hS2 hS3); go_simp; try with_reducible rfl); simp only [Act.put, List.setIfInBounds_toArray, List.set_cons_zero, List.set_cons_succ])
      (refine plan_take (v := ?_) rfl ?_ ?_; rotate_left; (rintro wS ⟨hS1, hS2, hS3⟩; (try dsimp only at hS1 hS2 hS3); go_simp; try with_reducible rfl); simp only [Act.put, List.setIfInBounds_toArray, List.set_cons_zero, List.set_cons_succ])
      (refine plan_take (v := ?_) rfl ?_ ?_; rotate_left; (rintro wS ⟨hS1, hS2, hS3⟩; (try dsimp only at hS1 hS2 hS3); go_simp; try with_reducible rfl); simp only [Act.put, List.setIfInBounds_toArray, List.set_cons_zero, List.set_cons_succ])
      (refine plan_take (v := ?_) rfl ?_ ?_; rotate_left; (rintro wS ⟨hS1, hS2, hS3⟩; (try dsimp only at hS1 hS2 hS3); go_simp; try with_reducible rfl); simp only [Act.put, List.setIfInBounds_toArray, List.set_cons_zero, List.set_cons_succ])
      (refine plan_take (v := ?_) rfl ?_ ?_; rotate_left; (rintro wS ⟨hS1, hS2, hS3⟩; (try dsimp only at hS1 hS2 hS3); go_simp; try with_reducible rfl); simp only [Act.put, List.setIfInBounds_toArray, List.set_cons_zero, List.set_cons_succ])
      (refine plan_take (v := ?_) rfl ?_ ?_; rotate_left; (rintro wS ⟨hS1, hS2, hS3⟩; (try dsimp only at hS1 hS2 hS3); go_simp; try with_reducible rfl); simp only [Act.put, List.setIfInBounds_toArray, List.set_cons_zero, List.set_cons_succ])
      (refine plan_take (v := ?_) rfl ?_ ?_; rotate_left; (rintro wS ⟨hS1, hS2, hS3⟩; (try dsimp only at hS1 hS2 hS3); go_simp; try with_reducible rfl); simp only [Act.put, List.setIfInBounds_toArray, List.set_cons_zero, List.set_cons_succ])
      (refine plan_take (v := ?_) rfl ?_ ?_; rotate_left; (rintro wS ⟨hS1, hS2, hS3⟩; (try dsimp only at hS1 hS2 hS3); go_simp; try with_reducible rfl); simp only [Act.put, List.setIfInBounds_toArray, List.set_cons_zero, List.set_cons_succ])
      refine plan_run rfl (fun K hK => ?_)
      go_simp
      refine (rleft_16 _ _).mono ?_
      rintro x w9 ⟨rfl, rfl⟩
      refine hK.out _ _ ⟨e3, e4, e5⟩ ?_
      clear hK K
      try simp only [Act.put, List.setIfInBounds_toArray, List.set_cons_zero, List.set_cons_succ]
      (refine plan_take (v := ?_) rfl ?_ ?_; rotate_left; (rintro wS ⟨hS1, hS2, hS3⟩; (try dsimp only at hS1 hS2 hS3); go_simp; try with_reducible rfl); simp only [Act.put, List.setIfInBounds_toArray, List.set_cons_zero, List.set_cons_succ])
      refine plan_nil ?_
      go_wp2_with fail
      refine NoPanic.normal ?_
      go_wp2_with fail
      go_roundg (gk - 1)
      case measure => omega
      case rel => exact ⟨1, by omega, by go_num, by rw [HF.out]; exact H2.out.set d _⟩
    · have HF : Hid (qSt f a b c d 2 = rotW (addW (qSt f a b c d 1) c d) b c 12 20) := rfl
      generalize qSt f a b c d 1 = F at *
      have e1 := HQ.out.drew.b0.word c hc
      have e2 := HQ.out.drew.b0.word d hd
      have ef := HQ.out.drew.b0.frozen c
      go_wp2_with fail
      refine wp_region_plan (fun w' => w'.cell? ⟨w.heap.size, c, none⟩ = some (.int .u32 (n32 (F c))) ∧ w'.cell? ⟨w.heap.size, d, none⟩ = some (.int .u32 (n32 (F d)))) 8 [(true, 0), (true, 1), (true, 2), (true, 3), (true, 4), (true, 5), (true, 6), (true, 7)] (by kernel_rfl) (by kernel_rfl) ⟨e1, e2⟩ ?_
      simp only [List.map_cons, List.map_nil, List.getD_cons_zero, List.getD_cons_succ, List.drop_succ_cons, List.drop_zero]
      (refine plan_take (v := ?_) rfl ?_ ?_; rotate_left; (rintro wS ⟨hS1, hS2⟩; (try dsimp only at hS1 hS2); go_simp; try with_reducible rfl); simp only [Act.put, List.setIfInBounds_toArray, List.set_cons_zero, List.set_cons_succ])
      (refine plan_take (v := ?_) rfl ?_ ?_; rotate_left; (rintro wS ⟨hS1, hS2⟩; (try dsimp only at hS1 hS2); go_simp; try with_reducible rfl); simp only [Act.put, List.setIfInBounds_toArray, List.set_cons_zero, List.set_cons_succ])
      (refine plan_take (v := ?_) rfl ?_ ?_; rotate_left; (rintro wS ⟨hS1, hS2⟩; (try dsimp only at hS1 hS2); go_simp; try with_reducible rfl); simp only [Act.put, List.setIfInBounds_toArray, List.set_cons_zero, List.set_cons_succ])
      (refine plan_take (v := ?_) rfl ?_ ?_; rotate_left; (rintro wS ⟨hS1, hS2⟩; (try dsimp only at hS1 hS2); go_simp; try with_reducible rfl); simp only [Act.put, List.setIfInBounds_toArray, List.set_cons_zero, List.set_cons_succ])
      (refine plan_take (v := ?_) rfl ?_ ?_; rotate_left; (rintro wS ⟨hS1, hS2⟩; (try dsimp only at hS1 hS2); go_simp; try with_reducible rfl); simp only [Act.put, List.setIfInBounds_toArray, List.set_cons_zero, List.set_cons_succ])
      (refine plan_take (v := ?_) rfl ?_ ?_; rotate_left; (rintro wS ⟨hS1, hS2⟩; (try dsimp only at hS1 hS2); go_simp; try with_reducible rfl); simp only [Act.put, List.setIfInBounds_toArray, List.set_cons_zero, List.set_cons_succ])
      (refine plan_take (v := ?_) rfl ?_ ?_; rotate_left; (rintro wS ⟨hS1, hS2⟩; (try dsimp only at hS1 hS2); go_simp; try with_reducible rfl); simp only [Act.put, List.setIfInBounds_toArray, List.set_cons_zero, List.set_cons_succ])
      (refine plan_take (v := ?_) rfl ?_ ?_; rotate_left; (rintro wS ⟨hS1, hS2⟩; (try dsimp only at hS1 hS2); go_simp; try with_reducible rfl); simp only [Act.put, List.setIfInBounds_toArray, List.set_cons_zero, List.set_cons_succ])
      refine plan_nil ?_
      go_wp2_with fail
      refine NoPanic.normal ?_
      go_wp2_with fail
      have H2 := Lib.hid (HQ.out.set c (F c + F d)).drew.drew
      have hF1 : upd F c (F c + F d) = addW F c d := rfl
      rw [hF1] at H2
      generalize addW F c d = F1 at *
      have e3 := H2.out.b0.word b hb
      have e4 := H2.out.b0.word c hc
      have e5 : (World.cell? _ ⟨w.heap.size + 1 + 1, 1, none⟩) = some (.int .u64 12) := H2.out.b2.cell 1
      have ef2 := H2.out.b0.frozen b
      refine wp_region_plan (fun w' => w'.cell? ⟨w.heap.size, b, none⟩ = some (.int .u32 (n32 (F1 b))) ∧ w'.cell? ⟨w.heap.size, c, none⟩ = some (.int .u32 (n32 (F1 c))) ∧ w'.cell? ⟨w.heap.size + 1 + 1, 1, none⟩ = some (.int .u64 12)) 14 [(true, 0), (true, 1), (true, 2), (true, 3), (true, 4), (true, 5), (true, 6), (true, 7), (true, 8), (true, 9), (true, 10), (true, 11), (false, 12), (true, 13)] (by kernel_rfl) (by kernel_rfl) ⟨e3, e4, e5⟩ ?_
      simp only [List.map_cons, List.map_nil, List.getD_cons_zero, List.getD_cons_succ, List.drop_succ_cons, List.drop_zero]
      (refine plan_take (v := ?_) rfl ?_ ?_; rotate_left; (rintro wS ⟨hS1, hS2, hS3⟩; (try dsimp only at hS1 hS2 hS3); go_simp; try with_reducible rfl); simp only [Act.put, List.setIfInBounds_toArray, List.set_cons_zero, List.set_cons_succ])
      (refine plan_take (v := ?_) rfl ?_ ?_; rotate_left; (rintro wS ⟨hS1, hS2, hS3⟩; (try dsimp only at hS1 hS2 hS3); go_simp; try with_reducible rfl); simp only [Act.put, List.setIfInBounds_toArray, List.set_cons_zero, List.set_cons_succ])
      (refine plan_take (v := ?_) rfl ?_ ?_; rotate_left; (rintro wS ⟨hS1, hS2, hS3⟩; (try dsimp only at hS1 hS2 hS3); go_simp; try with_reducible rfl); simp only [Act.put, List.setIfInBounds_toArray, List.set_cons_zero, List.set_cons_succ])
      (refine plan_take (v := ?_) rfl ?_ ?_; rotate_left; (rintro wS ⟨hS1, hS2, hS3⟩; (try dsimp only at hS1 hS2 hS3); go_simp; try with_reducible rfl); simp only [Act.put, List.setIfInBounds_toArray, List.set_cons_zero, List.set_cons_succ])
      (refine plan_take (v := ?_) rfl ?_ ?_; rotate_left; (rintro wS ⟨hS1, hS2, hS3⟩; (try dsimp only at hS1 hS2 hS3); go_simp; try with_reducible rfl); simp only [Act.put, List.setIfInBounds_toArray, List.set_cons_zero, List.set_cons_succ])
      (refine plan_take (v := ?_) rfl ?_ ?_; rotate_left; (rintro wS ⟨hS1, hS2, hS3⟩; (try dsimp only at hS1 hS2 hS3); go_simp; try with_reducible rfl); simp only [Act.put, List.setIfInBounds_toArray, List.set_cons_zero, List.set_cons_succ])
      (refine plan_take (v := ?_) rfl ?_ ?_; rotate_left; (rintro wS ⟨hS1, hS2, hS3⟩; (try dsimp only at hS1 hS2 hS3); go_simp; try with_reducible rfl); simp only [Act.put, List.setIfInBounds_toArray, List.set_cons_zero, List.set_cons_succ])
      (refine plan_take (v := ?_) rfl ?_ ?_; rotate_left; (rintro wS ⟨hS1, hS2, hS3⟩; (try dsimp only at hS1 hS2 hS3); go_simp; try with_reducible rfl); simp only [Act.put, List.setIfInBounds_toArray, List.set_cons_zero, List.set_cons_succ])
      (refine plan_take (v := ?_) rfl ?_ ?_; rotate_left; (rintro wS ⟨hS1, hS2, hS3⟩; (try dsimp only at hS1 hS2 hS3); go_simp; try with_reducible rfl); simp only [Act.put, List.setIfInBounds_toArray, List.set_cons_zero, List.set_cons_succ])
      (refine plan_take (v := ?_) rfl ?_ ?_; rotate_left; (rintro wS ⟨hS1, hS2, hS3⟩; (try dsimp only at hS1 hS2 hS3); go_simp; try with_reducible rfl); simp only [Act.put, List.setIfInBounds_toArray, List.set_cons_zero, List.set_cons_succ])
      (refine plan_take (v := ?_) rfl ?_ ?_; rotate_left; (rintro wS ⟨hS1, hS2, hS3⟩; (try dsimp only at hS1 hS2 hS3); go_simp; try with_reducible rfl); simp only [Act.put, List.setIfInBounds_toArray, List.set_cons_zero, List.set_cons_succ])
      (refine plan_take (v := ?_) rfl ?_ ?_; rotate_left; (rintro wS ⟨hS1, hS2, hS3⟩; (try dsimp only at hS1 hS2 hS3); go_simp; try with_reducible rfl); simp only [Act.put, List.setIfInBounds_toArray, List.set_cons_zero, List.set_cons_succ])
      refine plan_run rfl (fun K hK => ?_)
      go_simp
      refine (rleft_12 _ _).mono ?_
      rintro x w9 ⟨rfl, rfl⟩
      refine hK.out _ _ ⟨e3, e4, e5⟩ ?_
      clear hK K
      try simp only [Act.put, List.setIfInBounds_toArray, List.set_cons_zero, List.set_cons_succ]
      (refine plan_take (v := ?_) rfl ?_ ?_; rotate_left; (rintro wS ⟨hS1, hS2, hS3⟩; (try dsimp only at hS1 hS2 hS3); go_simp; try with_reducible rfl); simp only [Act.put, List.setIfInBounds_toArray, List.set_cons_zero, List.set_cons_succ])
      refine plan_nil ?_
      go_wp2_with fail
      refine NoPanic.normal ?_
      go_wp2_with fail
      go_roundg (gk - 1)
      case measure => omega
      case rel => exact ⟨2, by omega, by go_num, by rw [HF.out]; exact H2.out.set b _⟩
    · have HF : Hid (qSt f a b c d 3 = rotW (addW (qSt f a b c d 2) a b) d a 8 24) := rfl
      generalize qSt f a b c d 2 = F at *
      have e1 := HQ.out.drew.b0.word a ha
      have e2 := HQ.out.drew.b0.word b hb
      have ef := HQ.out.drew.b0.frozen a
      go_wp2_with fail
      refine wp_region_plan (fun w' => w'.cell? ⟨w.heap.size, a, none⟩ = some (.int .u32 (n32 (F a))) ∧ w'.cell? ⟨w.heap.size, b, none⟩ = some (.int .u32 (n32 (F b)))) 8 [(true, 0), (true, 1), (true, 2), (true, 3), (true, 4), (true, 5), (true, 6), (true, 7)] (by kernel_rfl) (by kernel_rfl) ⟨e1, e2⟩ ?_
      simp only [List.map_cons, List.map_nil, List.getD_cons_zero, List.getD_cons_succ, List.drop_succ_cons, List.drop_zero]
      (refine plan_take (v := ?_) rfl ?_ ?_; rotate_left; (rintro wS ⟨hS1, hS2⟩; (try dsimp only at hS1 hS2); go_simp; try with_reducible rfl); simp only [Act.put, List.setIfInBounds_toArray, List.set_cons_zero, List.set_cons_succ])
      (refine plan_take (v := ?_) rfl ?_ ?_; rotate_left; (rintro wS ⟨hS1, hS2⟩; (try dsimp only at hS1 hS2); go_simp; try with_reducible rfl); simp only [Act.put, List.setIfInBounds_toArray, List.set_cons_zero, List.set_cons_succ])
      (refine plan_take (v := ?_) rfl ?_ ?_; rotate_left; (rintro wS ⟨hS1, hS2⟩; (try dsimp only at hS1 hS2); go_simp; try with_reducible rfl); simp only [Act.put, List.setIfInBounds_toArray, List.set_cons_zero, List.set_cons_succ])
      (refine plan_take (v := ?_) rfl ?_ ?_; rotate_left; (rintro wS ⟨hS1, hS2⟩; (try dsimp only at hS1 hS2); go_simp; try with_reducible rfl); simp only [Act.put, List.setIfInBounds_toArray, List.set_cons_zero, List.set_cons_succ])
      (refine plan_take (v := ?_) rfl ?_ ?_; rotate_left; (rintro wS ⟨hS1, hS2⟩; (try dsimp only at hS1 hS2); go_simp; try with_reducible rfl); simp only [Act.put, List.setIfInBounds_toArray, List.set_cons_zero, List.set_cons_succ])
      (refine plan_take (v := ?_) rfl ?_ ?_; rotate_left; (rintro wS ⟨hS1, hS2⟩; (try dsimp only at hS1 hS2); go_simp; try with_reducible rfl); simp only [Act.put, List.setIfInBounds_toArray, List.set_cons_zero, List.set_cons_succ])
      (refine plan_take (v := ?_) rfl ?_ ?_; rotate_left; (rintro wS ⟨hS1, hS2⟩; (try dsimp only at hS1 hS2); go_simp; try with_reducible rfl); simp only [Act.put, List.setIfInBounds_toArray, List.set_cons_zero, List.set_cons_succ])
      (refine plan_take (v := ?_) rfl ?_ ?_; rotate_left; (rintro wS ⟨hS1, hS2⟩; (try dsimp only at hS1 hS2); go_simp; try with_reducible rfl); simp only [Act.put, List.setIfInBounds_toArray, List.set_cons_zero, List.set_cons_succ])
      refine plan_nil ?_
      go_wp2_with fail
      refine NoPanic.normal ?_
      go_wp2_with fail
      have H2 := Lib.hid (HQ.out.set a (F a + F b)).drew.drew
      have hF1 : upd F a (F a + F b) = addW F a b := rfl
      rw [hF1] at H2
      generalize addW F a b = F1 at *
      have e3 := H2.out.b0.word d hd
      have e4 := H2.out.b0.word a ha
      have e5 : (World.cell? _ ⟨w.heap.size + 1 + 1, 2, none⟩) = some (.int .u64 8) := H2.out.b2.cell 2
      have ef2 := H2.out.b0.frozen d
      refine wp_region_plan (fun w' => w'.cell? ⟨w.heap.size, d, none⟩ = some (.int .u32 (n32 (F1 d))) ∧ w'.cell? ⟨w.heap.size, a, none⟩ = some (.int .u32 (n32 (F1 a))) ∧ w'.cell? ⟨w.heap.size + 1 + 1, 2, none⟩ = some (.int .u64 8)) 14 [(true, 0), (true, 1), (true, 2), (true, 3), (true, 4), (true, 5), (true, 6), (true, 7), (true, 8), (true, 9), (true, 10), (true, 11), (false, 12), (true, 13)] (by kernel_rfl) (by kernel_rfl) ⟨e3, e4, e5⟩ ?_
      simp only [List.map_cons, List.map_nil, List.getD_cons_zero, List.getD_cons_succ, List.drop_succ_cons, List.drop_zero]
      (refine plan_take (v := ?_) rfl ?_ ?_; rotate_left; (rintro wS ⟨hS1, hS2, hS3⟩; (try dsimp only at hS1 hS2 hS3); go_simp; try with_reducible rfl); simp only [Act.put, List.setIfInBounds_toArray, List.set_cons_zero, List.set_cons_succ])
      (refine plan_take (v := ?_) rfl ?_ ?_; rotate_left; (rintro wS ⟨hS1, hS2, hS3⟩; (try dsimp only at hS1 hS2 hS3); go_simp; try with_reducible rfl); simp only [Act.put, List.setIfInBounds_toArray, List.set_cons_zero, List.set_cons_succ])
      (refine plan_take (v := ?_) rfl ?_ ?_; rotate_left; (rintro wS ⟨hS1, hS2, hS3⟩; (try dsimp only at hS1 hS2 hS3); go_simp; try with_reducible rfl); simp only [Act.put, List.setIfInBounds_toArray, List.set_cons_zero, List.set_cons_succ])
      (refine plan_take (v := ?_) rfl ?_ ?_; rotate_left; (rintro wS ⟨hS1, hS2, hS3⟩; (try dsimp only at hS1 hS2 hS3); go_simp; try with_reducible rfl); simp only [Act.put, List.setIfInBounds_toArray, List.set_cons_zero, List.set_cons_succ])
      (refine plan_take (v := ?_) rfl ?_ ?_; rotate_left; (rintro wS ⟨hS1, hS2, hS3⟩; (try dsimp only at hS1 hS2 hS3); go_simp; try with_reducible rfl); simp only [Act.put, List.setIfInBounds_toArray, List.set_cons_zero, List.set_cons_succ])
      (refine plan_take (v := ?_) rfl ?_ ?_; rotate_left; (rintro wS ⟨hS1, hS2, hS3⟩; (try dsimp only at hS1 hS2 hS3); go_simp; try with_reducible rfl); simp only [Act.put, List.setIfInBounds_toArray, List.set_cons_zero, List.set_cons_succ])
      (refine plan_take (v := ?_) rfl ?_ ?_; rotate_left; (rintro wS ⟨hS1, hS2, hS3⟩; (try dsimp only at hS1 hS2 hS3); go_simp; try with_reducible rfl); simp only [Act.put, List.setIfInBounds_toArray, List.set_cons_zero, List.set_cons_succ])
      (refine plan_take (v := ?_) rfl ?_ ?_; rotate_left; (rintro wS ⟨hS1, hS2, hS3⟩; (try dsimp only at hS1 hS2 hS3); go_simp; try with_reducible rfl); simp only [Act.put, List.setIfInBounds_toArray, List.set_cons_zero, List.set_cons_succ])
      (refine plan_take (v := ?_) rfl ?_ ?_; rotate_left; (rintro wS ⟨hS1, hS2, hS3⟩; (try dsimp only at hS1 hS2 hS3); go_simp; try with_reducible rfl); simp only [Act.put, List.setIfInBounds_toArray, List.set_cons_zero, List.set_cons_succ])
      (refine plan_take (v := ?_) rfl ?_ ?_; rotate_left; (rintro wS ⟨hS1, hS2, hS3⟩; (try dsimp only at hS1 hS2 hS3); go_simp; try with_reducible rfl); simp only [Act.put, List.setIfInBounds_toArray, List.set_cons_zero, List.set_cons_succ])
      (refine plan_take (v := ?_) rfl ?_ ?_; rotate_left; (rintro wS ⟨hS1, hS2, hS3⟩; (try dsimp only at hS1 hS2 hS3); go_simp; try with_reducible rfl); simp only [Act.put, List.setIfInBounds_toArray, List.set_cons_zero, List.set_cons_succ])
      (refine plan_take (v := ?_) rfl ?_ ?_; rotate_left; (rintro wS ⟨hS1, hS2, hS3⟩; (try dsimp only at hS1 hS2 hS3); go_simp; try with_reducible rfl); simp only [Act.put, List.setIfInBounds_toArray, List.set_cons_zero, List.set_cons_succ])
      refine plan_run rfl (fun K hK => ?_)
      go_simp
      refine (rleft_8 _ _).mono ?_
      rintro x w9 ⟨rfl, rfl⟩
      refine hK.out _ _ ⟨e3, e4, e5⟩ ?_
      clear hK K
      try simp only [Act.put, List.setIfInBounds_toArray, List.set_cons_zero, List.set_cons_succ]
      (refine plan_take (v := ?_) rfl ?_ ?_; rotate_left; (rintro wS ⟨hS1, hS2, hS3⟩; (try dsimp only at hS1 hS2 hS3); go_simp; try with_reducible rfl); simp only [Act.put, List.setIfInBounds_toArray, List.set_cons_zero, List.set_cons_succ])
      refine plan_nil ?_
      go_wp2_with fail
      refine NoPanic.normal ?_
      go_wp2_with fail
      go_roundg (gk - 1)
      case measure => omega
      case rel => exact ⟨3, by omega, by go_num, by rw [HF.out]; exact H2.out.set d _⟩
    · have HF : Hid (qSt f a b c d 4 = rotW (addW (qSt f a b c d 3) c d) b c 7 25) := rfl
      generalize qSt f a b c d 3 = F at *
      have e1 := HQ.out.drew.b0.word c hc
      have e2 := HQ.out.drew.b0.word d hd
      have ef := HQ.out.drew.b0.frozen c
      go_wp2_with fail
      refine wp_region_plan (fun w' => w'.cell? ⟨w.heap.size, c, none⟩ = some (.int .u32 (n32 (F c))) ∧ w'.cell? ⟨w.heap.size, d, none⟩ = some (.int .u32 (n32 (F d)))) 8 [(true, 0), (true, 1), (true, 2), (true, 3), (true, 4), (true, 5), (true, 6), (true, 7)] (by kernel_rfl) (by kernel_rfl) ⟨e1, e2⟩ ?_
      simp only [List.map_cons, List.map_nil, List.getD_cons_zero, List.getD_cons_succ, List.drop_succ_cons, List.drop_zero]
      (refine plan_take (v := ?_) rfl ?_ ?_; rotate_left; (rintro wS ⟨hS1, hS2⟩; (try dsimp only at hS1 hS2); go_simp; try with_reducible rfl); simp only [Act.put, List.setIfInBounds_toArray, List.set_cons_zero, List.set_cons_succ])
      (refine plan_take (v := ?_) rfl ?_ ?_; rotate_left; (rintro wS ⟨hS1, hS2⟩; (try dsimp only at hS1 hS2); go_simp; try with_reducible rfl); simp only [Act.put, List.setIfInBounds_toArray, List.set_cons_zero, List.set_cons_succ])
      (refine plan_take (v := ?_) rfl ?_ ?_; rotate_left; (rintro wS ⟨hS1, hS2⟩; (try dsimp only at hS1 hS2); go_simp; try with_reducible rfl); simp only [Act.put, List.setIfInBounds_toArray, List.set_cons_zero, List.set_cons_succ])
      (refine plan_take (v := ?_) rfl ?_ ?_; rotate_left; (rintro wS ⟨hS1, hS2⟩; (try dsimp only at hS1 hS2); go_simp; try with_reducible rfl); simp only [Act.put, List.setIfInBounds_toArray, List.set_cons_zero, List.set_cons_succ])
      (refine plan_take (v := ?_) rfl ?_ ?_; rotate_left; (rintro wS ⟨hS1, hS2⟩; (try dsimp only at hS1 hS2); go_simp; try with_reducible rfl); simp only [Act.put, List.setIfInBounds_toArray, List.set_cons_zero, List.set_cons_succ])
      (refine plan_take (v := ?_) rfl ?_ ?_; rotate_left; (rintro wS ⟨hS1, hS2⟩; (try dsimp only at hS1 hS2); go_simp; try with_reducible rfl); simp only [Act.put, List.setIfInBounds_toArray, List.set_cons_zero, List.set_cons_succ])
      (refine plan_take (v := ?_) rfl ?_ ?_; rotate_left; (rintro wS ⟨hS1, hS2⟩; (try dsimp only at hS1 hS2); go_simp; try with_reducible rfl); simp only [Act.put, List.setIfInBounds_toArray, List.set_cons_zero, List.set_cons_succ])
      (refine plan_take (v := ?_) rfl ?_ ?_; rotate_left; (rintro wS ⟨hS1, hS2⟩; (try dsimp only at hS1 hS2); go_simp; try with_reducible rfl); simp only [Act.put, List.setIfInBounds_toArray, List.set_cons_zero, List.set_cons_succ])
      refine plan_nil ?_
      go_wp2_with fail
      refine NoPanic.normal ?_
      go_wp2_with fail
      have H2 := Lib.hid (HQ.out.set c (F c + F d)).drew.drew
      have hF1 : upd F c (F c + F d) = addW F c d := rfl
      rw [hF1] at H2
      generalize addW F c d = F1 at *
      have e3 := H2.out.b0.word b hb
      have e4 := H2.out.b0.word c hc
      have e5 : (World.cell? _ ⟨w.heap.size + 1 + 1, 3, none⟩) = some (.int .u64 7) := H2.out.b2.cell 3
      have ef2 := H2.out.b0.frozen b
      refine wp_region_plan (fun w' => w'.cell? ⟨w.heap.size, b, none⟩ = some (.int .u32 (n32 (F1 b))) ∧ w'.cell? ⟨w.heap.size, c, none⟩ = some (.int .u32 (n32 (F1 c))) ∧ w'.cell? ⟨w.heap.size + 1 + 1, 3, none⟩ = some (.int .u64 7)) 14 [(true, 0), (true, 1), (true, 2), (true, 3), (true, 4), (true, 5), (true, 6), (true, 7), (true, 8), (true, 9), (true, 10), (true, 11), (false, 12), (true, 13)] (by kernel_rfl) (by kernel_rfl) ⟨e3, e4, e5⟩ ?_
      simp only [List.map_cons, List.map_nil, List.getD_cons_zero, List.getD_cons_succ, List.drop_succ_cons, List.drop_zero]
      (refine plan_take (v := ?_) rfl ?_ ?_; rotate_left; (rintro wS ⟨hS1, hS2, hS3⟩; (try dsimp only at hS1 hS2 hS3); go_simp; try with_reducible rfl); simp only [Act.put, List.setIfInBounds_toArray, List.set_cons_zero, List.set_cons_succ])
      (refine plan_take (v := ?_) rfl ?_ ?_; rotate_left; (rintro wS ⟨hS1, hS2, hS3⟩; (try dsimp only at hS1 hS2 hS3); go_simp; try with_reducible rfl); simp only [Act.put, List.setIfInBounds_toArray, List.set_cons_zero, List.set_cons_succ])
      (refine plan_take (v := ?_) rfl ?_ ?_; rotate_left; (rintro wS ⟨hS1, hS2, hS3⟩; (try dsimp only at hS1 hS2 hS3); go_simp; try with_reducible rfl); simp only [Act.put, List.setIfInBounds_toArray, List.set_cons_zero, List.set_cons_succ])
      (refine plan_take (v := ?_) rfl ?_ ?_; rotate_left; (rintro wS ⟨hS1, hS2, hS3⟩; (try dsimp only at hS1 hS2 hS3); go_simp; try with_reducible rfl); simp only [Act.put, List.setIfInBounds_toArray, List.set_cons_zero, List.set_cons_succ])
      (refine plan_take (v := ?_) rfl ?_ ?_; rotate_left; (rintro wS ⟨hS1, hS2, hS3⟩; (try dsimp only at hS1 hS2 hS3); go_simp; try with_reducible rfl); simp only [Act.put, List.setIfInBounds_toArray, List.set_cons_zero, List.set_cons_succ])
      (refine plan_take (v := ?_) rfl ?_ ?_; rotate_left; (rintro wS ⟨hS1, hS2, hS3⟩; (try dsimp only at hS1 hS2 hS3); go_simp; try with_reducible rfl); simp only [Act.put, List.setIfInBounds_toArray, List.set_cons_zero, List.set_cons_succ])
      (refine plan_take (v := ?_) rfl ?_ ?_; rotate_left; (rintro wS ⟨hS1, hS2, hS3⟩; (try dsimp only at hS1 hS2 hS3); go_simp; try with_reducible rfl); simp only [Act.put, List.setIfInBounds_toArray, List.set_cons_zero, List.set_cons_succ])
      (refine plan_take (v := ?_) rfl ?_ ?_; rotate_left; (rintro wS ⟨hS1, hS2, hS3⟩; (try dsimp only at hS1 hS2 hS3); go_simp; try with_reducible rfl); simp only [Act.put, List.setIfInBounds_toArray, List.set_cons_zero, List.set_cons_succ])
      (refine plan_take (v := ?_) rfl ?_ ?_; rotate_left; (rintro wS ⟨hS1, hS2, hS3⟩; (try dsimp only at hS1 hS2 hS3); go_simp; try with_reducible rfl); simp only [Act.put, List.setIfInBounds_toArray, List.set_cons_zero, List.set_cons_succ])
      (refine plan_take (v := ?_) rfl ?_ ?_; rotate_left; (rintro wS ⟨hS1, hS2, hS3⟩; (try dsimp only at hS1 hS2 hS3); go_simp; try with_reducible rfl); simp only [Act.put, List.setIfInBounds_toArray, List.set_cons_zero, List.set_cons_succ])
      (refine plan_take (v := ?_) rfl ?_ ?_; rotate_left; (rintro wS ⟨hS1, hS2, hS3⟩; (try dsimp only at hS1 hS2 hS3); go_simp; try with_reducible rfl); simp only [Act.put, List.setIfInBounds_toArray, List.set_cons_zero, List.set_cons_succ])
      (refine plan_take (v := ?_) rfl ?_ ?_; rotate_left; (rintro wS ⟨hS1, hS2, hS3⟩; (try dsimp only at hS1 hS2 hS3); go_simp; try with_reducible rfl); simp only [Act.put, List.setIfInBounds_toArray, List.set_cons_zero, List.set_cons_succ])
      refine plan_run rfl (fun K hK => ?_)
      go_simp
      refine (rleft_7 _ _).mono ?_
      rintro x w9 ⟨rfl, rfl⟩
      refine hK.out _ _ ⟨e3, e4, e5⟩ ?_
      clear hK K
      try simp only [Act.put, List.setIfInBounds_toArray, List.set_cons_zero, List.set_cons_succ]
      (refine plan_take (v := ?_) rfl ?_ ?_; rotate_left; (rintro wS ⟨hS1, hS2, hS3⟩; (try dsimp only at hS1 hS2 hS3); go_simp; try with_reducible rfl); simp only [Act.put, List.setIfInBounds_toArray, List.set_cons_zero, List.set_cons_succ])
      refine plan_nil ?_
      go_wp2_with fail
      refine NoPanic.normal ?_
      go_wp2_with fail
      go_roundg (gk - 1)
      case measure => omega
      case rel => exact ⟨4, by omega, by go_num, by rw [HF.out]; exact H2.out.set b _⟩
    · have HB2 : Hid (Blk (wr.setRow (w.heap.size + 1) (vw 16 (qSt f a b c d 4))) (w.heap.size + 1) 272 (vw 16 (qSt f a b c d 4))) := HQ.out.b1.row _
      go_wp2_with (first
        | (refine wpList_load_row rfl 272 (.tmp 5) (by rfl) w.heap.size (by rfl) 272 (vw 16 (qSt f a b c d 4)) (0, 0) _ HQ.out.b0 Tryz.underlying272 rfl (by rw [vw_size]; exact info272) ?_)
        | (refine wpList_store_row rfl 272 (.tmp 10) (.tmp 65) (by rfl) (w.heap.size + 1) (vw 16 (qSt f a b c d 4)) (by rfl) (by rfl) 272 _ HQ.out.b1 (by rw [vw_size]; exact info272) (by rw [vw_size, vw_size]) (vw_one _ _) ?_))
      refine bodyPost_ret (results_cell_row (fn := Tryz.f197) rfl _ _ (w.heap.size + 1) 272 (vw 16 (qSt f a b c d 4)) (0, 0) _ (by rfl) HB2.out Tryz.underlying272 rfl (by rw [vw_size]; exact info272)) rfl ?_
      exact ⟨rfl, below_setRow HQ.out.hb (Nat.le_succ _) _⟩

end Go.Proofs.YtimpjlnbbdfehaaGreatDoor
namespace Go.Proofs.YtimpjlnbbdfehaaGreatDoor
open Go.RowKit Go.Shelf Go.Lib Go.Sort
set_option linter.unusedVariables false
attribute [local go_sem ↓] shr_32_1 shl_32_1 shr_32_2 shl_32_2 shr_32_3 shl_32_3 shr_32_4 shl_32_4 shr_32_5 shl_32_5 shr_32_6 shl_32_6 shr_32_7 shl_32_7 shr_32_8 shl_32_8 shr_32_9 shl_32_9 shr_32_10 shl_32_10 shr_32_11 shl_32_11 shr_32_12 shl_32_12 shr_32_13 shl_32_13 shr_32_14 shl_32_14 shr_32_15 shl_32_15 shr_32_16 shl_32_16 shr_32_17 shl_32_17 shr_32_18 shl_32_18 shr_32_19 shl_32_19 shr_32_20 shl_32_20 shr_32_21 shl_32_21 shr_32_22 shl_32_22 shr_32_23 shl_32_23 shr_32_24 shl_32_24 shr_32_25 shl_32_25 shr_32_26 shl_32_26 shr_32_27 shl_32_27 shr_32_28 shl_32_28 shr_32_29 shl_32_29 shr_32_30 shl_32_30 shr_32_31 shl_32_31 shr_64_3 shl_64_3 shr_64_7 shl_64_7 shr_64_8 shl_64_8 shr_64_16 shl_64_16 shr_64_24 shl_64_24 shr_64_32 shl_64_32 shr_64_40 shl_64_40 shr_64_48 shl_64_48 shr_64_56 shl_64_56
attribute [local go_sem] add_u32 add_u64 and_u8 or_u8 xor_u8 and_u32 or_u32 xor_u32 and_u64 or_u64 xor_u64 conv_32_8 conv_64_8 conv_64_32 conv_8_32 conv_8_64 conv_32_64

/-- The boxes of the papers' block: what is first, what is mixed. -/
structure RB (w : World) (g : Nat) (f0 f : Nat → UInt32) (y : World) : Prop where
  b0 : Blk y w.heap.size 272 (vw 16 f0)
  b1 : Blk y g 272 (vw 16 f)
  hg : w.heap.size < g
  hb : Below w.heap.size w y
theorem RB.drewN {w : World} {g : Nat} {f0 f : Nat → UInt32} {y : World} (h : RB w g f0 f y) (n : Nat) : RB w g f0 f (y.drewN n) := ⟨h.b0.drewN n, h.b1.drewN n, h.hg, below_drewN h.hb n⟩
theorem RB.alloc {w : World} {g : Nat} {f0 f : Nat → UInt32} {y : World} (h : RB w g f0 f y) (o : Obj) : RB w g f0 f (y.alloc o) := ⟨h.b0.alloc o, h.b1.alloc o, h.hg, h.hb.alloc h.hb.size o⟩
theorem RB.below {w : World} {g : Nat} {f0 f : Nat → UInt32} {y z : World} (h : RB w g f0 f y) (hb : Below y.heap.size y z) : RB w g f0 f z :=
  ⟨(hb.block _ h.b0.lt).trans h.b0, (hb.block _ h.b1.lt).trans h.b1, h.hg, h.hb.trans (hb.mono h.hb.size)⟩
theorem RB.row {w : World} {g : Nat} {f0 f : Nat → UInt32} {y : World} (h : RB w g f0 f y) (f' : Nat → UInt32) : RB w g f0 f' (y.setRow g (vw 16 f')) :=
  ⟨h.b0.farRow (Nat.ne_of_lt h.hg) _, h.b1.row _, h.hg, below_setRow h.hb (Nat.le_of_lt h.hg) _⟩
/-- The eight quarters of one round. -/
def rnd8 (f : Nat → UInt32) : Nat → UInt32 := diaF (colF f 4) 4
theorem rnd8_eq (f : Nat → UInt32) : rnd8 f = quarterF (quarterF (quarterF (quarterF (quarterF (quarterF (quarterF (quarterF f 0 4 8 12) 1 5 9 13) 2 6 10 14) 3 7 11 15) 0 5 10 15) 1 6 11 12) 2 7 8 13) 3 4 9 14 := rfl
/-- The words ahead of the mixing. -/
structure RA (w : World) (f : Nat → UInt32) (y : World) : Prop where
  b0 : Blk y w.heap.size 272 (vw 16 f)
  hb : Below w.heap.size w y
theorem RA.set {w : World} {f : Nat → UInt32} {y : World} (h : RA w f y) (i : Nat) (x : UInt32) : RA w (upd f i x) (y.setCell ⟨w.heap.size, i, none⟩ (.int .u32 (n32 x))) :=
  ⟨h.b0.setw i x, h.hb.setCell (p := ⟨w.heap.size, i, none⟩) (Nat.le_refl _) _⟩
theorem RA.drewN {w : World} {f : Nat → UInt32} {y : World} (h : RA w f y) (n : Nat) : RA w f (y.drewN n) := ⟨h.b0.drewN n, below_drewN h.hb n⟩
theorem info272' : (Tryz.prog.info? 272).map (·.size) = some 16 := info272
theorem conv_word4d (a b c d : UInt8) (w : World) : (convert 57 9 (.slice (some ⟨w.heap.size, 0, none⟩) 4 4)).run Tryz.prog (w.alloc (.cells #[.int .u8 (n8 a), .int .u8 (n8 b), .int .u8 (n8 c), .int .u8 (n8 d)] 5)).drew = .ok (.string ⟨#[a, b, c, d]⟩) (w.alloc (.cells #[.int .u8 (n8 a), .int .u8 (n8 b), .int .u8 (n8 c), .int .u8 (n8 d)] 5)).drew := by
  have := conv_cells (w := (w.alloc (.cells #[.int .u8 (n8 a), .int .u8 (n8 b), .int .u8 (n8 c), .int .u8 (n8 d)] 5)).drew) (a := ⟨w.heap.size, 0, none⟩) (cap := 4) [a, b, c, d] (by
    obtain ⟨ad, e, h⟩ := row_cells w [.int .u8 (n8 a), .int .u8 (n8 b), .int .u8 (n8 c), .int .u8 (n8 d)] 5 (by simp)
    injection e with e
    subst e
    exact h)
  exact this
attribute [local go_sem] mod_n32 wrap_n32 rem_n32 mod_n8 mod_n8b wrap_n8 wrap_n8b
set_option maxHeartbeats 8000000 in
set_option maxRecDepth 100000 in
theorem rblock_ok (key nonce : ByteArray) (n : UInt32) (hk : key.size = 32) (hn : nonce.size = 12) (w : World) :
    Calls Tryz.prog 166 #[.string key, .string nonce, .int .u32 (n32 n)] w fun e w' => e = .returned (.string (blockB key nonce n)) ∧ Below w.heap.size w w' := by
  have HK := Lib.hid hk
  have HN := Lib.hid hn
  have HBB : Hid (blockB key nonce n = ⟨(outB (beginF key n nonce) (dblF (beginF key n nonce) 10) 16).toArray⟩) := rfl
  clear hk hn
  generalize blockB key nonce n = RES at *
  have HZ : Hid (vw 16 constF = #[.int .u32 1634760805, .int .u32 857760878, .int .u32 2036477234, .int .u32 1797285236, .int .u32 0, .int .u32 0, .int .u32 0, .int .u32 0, .int .u32 0, .int .u32 0, .int .u32 0, .int .u32 0, .int .u32 0, .int .u32 0, .int .u32 0, .int .u32 0]) := vw_const
  have HA0 : Hid (Blk (w.alloc (.cells #[.int .u32 0, .int .u32 0, .int .u32 0, .int .u32 0, .int .u32 0, .int .u32 0, .int .u32 0, .int .u32 0, .int .u32 0, .int .u32 0, .int .u32 0, .int .u32 0, .int .u32 0, .int .u32 0, .int .u32 0, .int .u32 0] 272)) w.heap.size 272 #[.int .u32 0, .int .u32 0, .int .u32 0, .int .u32 0, .int .u32 0, .int .u32 0, .int .u32 0, .int .u32 0, .int .u32 0, .int .u32 0, .int .u32 0, .int .u32 0, .int .u32 0, .int .u32 0, .int .u32 0, .int .u32 0]) := Blk.new w 272 _
  have HW0 : Hid (RA w (keyF key 0) ((w.alloc (.cells #[.int .u32 0, .int .u32 0, .int .u32 0, .int .u32 0, .int .u32 0, .int .u32 0, .int .u32 0, .int .u32 0, .int .u32 0, .int .u32 0, .int .u32 0, .int .u32 0, .int .u32 0, .int .u32 0, .int .u32 0, .int .u32 0] 272)).setRow w.heap.size (vw 16 constF))) := ⟨HA0.out.row _, below_setRow ((Below.refl _ _).alloc (Nat.le_refl _) _) (Nat.le_refl _) _⟩
  go_enter Tryz.func166, Tryz.ntmps166
  go_wp2_with (refine wpList_store_row rfl 272 (.tmp 7) (.tmp 15) (by rfl) w.heap.size (vw 16 constF) (by rfl) (by rw [HZ.out]; rfl) 272 _ HA0.out info272 (by rw [vw_size]; rfl) (vw_one _ _) ?_)
  clear HA0 HZ
  generalize (w.alloc (.cells #[.int .u32 0, .int .u32 0, .int .u32 0, .int .u32 0, .int .u32 0, .int .u32 0, .int .u32 0, .int .u32 0, .int .u32 0, .int .u32 0, .int .u32 0, .int .u32 0, .int .u32 0, .int .u32 0, .int .u32 0, .int .u32 0] 272)).setRow w.heap.size (vw 16 constF) = w1 at *
  go_loopg [8] (8 : Nat) (fun q i wr => ∃ (j : Nat), q + j = 8 ∧ i = .int .i64 (j : Int) ∧ RA w (keyF key j) wr)
  case atStart => exact ⟨0, rfl, rfl, HW0.out⟩
  case round =>
    obtain ⟨j, hj, rfl, hb⟩ := hrel
    have HA := Lib.hid hb
    clear hb HW0
    by_cases hlt : j < 8
    · have hd : decide ((j : Int) < 8) = true := decide_eq_true (by omega)
      have w1 : IntKind.i64.wrap (4 + (j : Int)) = ((4 + j : Nat) : Int) := wrap_in _ (by omega) (by omega)
      have w1' : wrap64 (4 + (j : Int)) = ((4 + j : Nat) : Int) := w64_small _ (by omega) (by omega)
      have w2 : IntKind.i64.wrap (4 * (j : Int)) = ((4 * j : Nat) : Int) := wrap_in _ (by omega) (by omega)
      have w2' : wrap64 (4 * (j : Int)) = ((4 * j : Nat) : Int) := w64_small _ (by omega) (by omega)
      have hc := fun W => rword_ok key (4 * j) (by rw [HK.out]; omega) (by rw [HK.out]; omega) W
      have HC := Lib.hid hc
      have HX : Hid (keyF key (j + 1) = upd (keyF key j) (4 + j) (le4 key (4 * j))) := rfl
      clear hc
      have hb1 : ((4 + j : Nat) : Int) < 16 := by omega
      have hb2 : (0 : Int) ≤ ((4 + j : Nat) : Int) := by omega
      have hf := HA.out.b0.frozen (4 + j)
      have hcell := HA.out.b0.word (4 + j) (by omega)
      generalize le4 key (4 * j) = x at *
      generalize keyF key j = f at *
      generalize 4 * j = p at *
      generalize 4 + j = i4 at *
      go_wp2_with fail
      refine (HC.out _).mono ?_
      rintro e w2 ⟨rfl, rfl⟩
      go_wp2_with fail
      go_roundg (gk - 1)
      case measure => omega
      case rel => exact ⟨j + 1, by omega, by go_num, by rw [HX.out]; exact (HA.out.drewN _).set _ _⟩
    · obtain rfl : j = 8 := by omega
      have hd : decide (((8 : Nat) : Int) < 8) = false := by decide
      have hf := HA.out.b0.frozen 12
      have hcell := HA.out.b0.word 12 (by omega)
      have HK8 : Hid (nonF key n nonce 0 = upd (keyF key 8) 12 n) := rfl
      generalize keyF key 8 = f at *
      have HNF0 : Hid (nonF key n nonce 0 = upd f 12 n) := HK8.out
      have HW2 : Hid (RA w (nonF key n nonce 0) (wr.setCell ⟨w.heap.size, 12, none⟩ (.int .u32 (n32 n)))) := by show RA _ _ _; rw [HNF0.out]; exact HA.out.set 12 n
      go_wp2_with fail
      clear HK8 HNF0 HA hf hcell hd
      generalize wr.setCell ⟨w.heap.size, 12, none⟩ (.int .u32 (n32 n)) = w5 at *
      go_loopg [9] (3 : Nat) (fun q i wr => ∃ (j : Nat), q + j = 3 ∧ i = .int .i64 (j : Int) ∧ RA w (nonF key n nonce j) wr)
      case atStart => exact ⟨0, rfl, rfl, HW2.out⟩
      case round =>
        obtain ⟨j, hj, rfl, hb⟩ := hrel
        have HA := Lib.hid hb
        clear hb HW2
        by_cases hlt : j < 3
        · have hd : decide ((j : Int) < 3) = true := decide_eq_true (by omega)
          have w1 : IntKind.i64.wrap (13 + (j : Int)) = ((13 + j : Nat) : Int) := wrap_in _ (by omega) (by omega)
          have w1' : wrap64 (13 + (j : Int)) = ((13 + j : Nat) : Int) := w64_small _ (by omega) (by omega)
          have w2 : IntKind.i64.wrap (4 * (j : Int)) = ((4 * j : Nat) : Int) := wrap_in _ (by omega) (by omega)
          have w2' : wrap64 (4 * (j : Int)) = ((4 * j : Nat) : Int) := w64_small _ (by omega) (by omega)
          have hc := fun W => rword_ok nonce (4 * j) (by rw [HN.out]; omega) (by rw [HN.out]; omega) W
          have HC := Lib.hid hc
          have HX : Hid (nonF key n nonce (j + 1) = upd (nonF key n nonce j) (13 + j) (le4 nonce (4 * j))) := rfl
          clear hc
          have hb1 : ((13 + j : Nat) : Int) < 16 := by omega
          have hb2 : (0 : Int) ≤ ((13 + j : Nat) : Int) := by omega
          have hf := HA.out.b0.frozen (13 + j)
          have hcell := HA.out.b0.word (13 + j) (by omega)
          generalize le4 nonce (4 * j) = x at *
          generalize nonF key n nonce j = f at *
          generalize 4 * j = p at *
          generalize 13 + j = i4 at *
          go_wp2_with fail
          refine (HC.out _).mono ?_
          rintro e w2 ⟨rfl, rfl⟩
          go_wp2_with fail
          go_roundg (gk - 1)
          case measure => omega
          case rel => exact ⟨j + 1, by omega, by go_num, by rw [HX.out]; exact (HA.out.drewN _).set _ _⟩
        · obtain rfl : j = 3 := by omega
          have hd : decide (((3 : Nat) : Int) < 3) = false := by decide
          have HF0 : Hid (nonF key n nonce 3 = beginF key n nonce) := rfl
          rw [HF0.out] at HA
          clear HF0
          generalize beginF key n nonce = f0 at *
          have HA1 : Hid (Blk (wr.alloc (.cells #[.int .u32 0, .int .u32 0, .int .u32 0, .int .u32 0, .int .u32 0, .int .u32 0, .int .u32 0, .int .u32 0, .int .u32 0, .int .u32 0, .int .u32 0, .int .u32 0, .int .u32 0, .int .u32 0, .int .u32 0, .int .u32 0] 272)) wr.heap.size 272 #[.int .u32 0, .int .u32 0, .int .u32 0, .int .u32 0, .int .u32 0, .int .u32 0, .int .u32 0, .int .u32 0, .int .u32 0, .int .u32 0, .int .u32 0, .int .u32 0, .int .u32 0, .int .u32 0, .int .u32 0, .int .u32 0]) := Blk.new wr 272 _
          have HR0 : Hid (RB w wr.heap.size f0 (dblF f0 0) ((wr.alloc (.cells #[.int .u32 0, .int .u32 0, .int .u32 0, .int .u32 0, .int .u32 0, .int .u32 0, .int .u32 0, .int .u32 0, .int .u32 0, .int .u32 0, .int .u32 0, .int .u32 0, .int .u32 0, .int .u32 0, .int .u32 0, .int .u32 0] 272)).setRow wr.heap.size (vw 16 f0))) :=
            ⟨(HA.out.b0.alloc _).farRow (Nat.ne_of_lt HA.out.b0.lt) _, HA1.out.row _, HA.out.b0.lt, below_setRow (HA.out.hb.alloc HA.out.hb.size _) HA.out.hb.size _⟩
          go_wp2_with (first
            | (refine wpList_load_row rfl 272 (.tmp 7) (by rfl) w.heap.size (by rfl) 272 (vw 16 f0) (0, 0) _ HA.out.b0 Tryz.underlying272 rfl (by rw [vw_size]; exact info272) ?_)
            | (refine wpList_store_row rfl 272 (.tmp 10) (.tmp 40) (by rfl) wr.heap.size (vw 16 f0) (by rfl) (by rfl) 272 _ HA1.out (by rw [vw_size]; exact info272) (by rw [vw_size]; rfl) (vw_one _ _) ?_))
          clear HA1 HA hd
          generalize (wr.alloc (.cells #[.int .u32 0, .int .u32 0, .int .u32 0, .int .u32 0, .int .u32 0, .int .u32 0, .int .u32 0, .int .u32 0, .int .u32 0, .int .u32 0, .int .u32 0, .int .u32 0, .int .u32 0, .int .u32 0, .int .u32 0, .int .u32 0] 272)).setRow wr.heap.size (vw 16 f0) = w6 at *
          generalize wr.heap.size = g at *
          go_loopg [11] (10 : Nat) (fun q i wr => ∃ (j : Nat), q + j = 10 ∧ i = .int .i64 (j : Int) ∧ RB w g f0 (dblF f0 j) wr)
          case atStart => exact ⟨0, rfl, rfl, HR0.out⟩
          case round =>
            obtain ⟨j, hj, rfl, hb⟩ := hrel
            have HB := Lib.hid hb
            clear hb HR0
            by_cases hlt : j < 10
            · have hd : decide ((j : Int) < 10) = true := decide_eq_true (by omega)
              have HX : Hid (dblF f0 (j + 1) = rnd8 (dblF f0 j)) := rfl
              rw [Hid, rnd8_eq] at HX
              have HX := Lib.hid HX
              generalize dblF f0 j = F0 at *
              go_wp2_with ((refine wpList_load_row rfl 272 (.tmp 10) (by rfl) g (by rfl) 272 (vw 16 F0) (0, 0) _ HB.out.b1 Tryz.underlying272 rfl (by rw [vw_size]; exact info272) ?_))
              have hq0 := rquarter_ok F0 0 4 8 12 (by decide) (by decide) (by decide) (by decide)
              generalize quarterF F0 0 4 8 12 = F1 at *
              refine (hq0 _).mono ?_
              rintro e y1 ⟨rfl, hb⟩
              have HD1 := Lib.hid (HB.out.below hb)
              have HB1 := Lib.hid (HD1.out.row F1)
              clear hb hq0
              go_wp2_with (first
                | (refine wpList_store_row rfl 272 (.tmp 10) (.tmp 46) (by rfl) g (vw 16 F1) (by rfl) (by rfl) 272 _ HD1.out.b1 (by rw [vw_size]; exact info272) (by rw [vw_size, vw_size]) (vw_one _ _) ?_)
                | (refine wpList_load_row rfl 272 (.tmp 10) (by rfl) g (by rfl) 272 (vw 16 F1) (0, 0) _ HB1.out.b1 Tryz.underlying272 rfl (by rw [vw_size]; exact info272) ?_))
              have hq1 := rquarter_ok F1 1 5 9 13 (by decide) (by decide) (by decide) (by decide)
              generalize quarterF F1 1 5 9 13 = F2 at *
              refine (hq1 _).mono ?_
              rintro e y2 ⟨rfl, hb⟩
              have HD2 := Lib.hid (HB1.out.below hb)
              have HB2 := Lib.hid (HD2.out.row F2)
              clear hb hq1
              go_wp2_with (first
                | (refine wpList_store_row rfl 272 (.tmp 10) (.tmp 48) (by rfl) g (vw 16 F2) (by rfl) (by rfl) 272 _ HD2.out.b1 (by rw [vw_size]; exact info272) (by rw [vw_size, vw_size]) (vw_one _ _) ?_)
                | (refine wpList_load_row rfl 272 (.tmp 10) (by rfl) g (by rfl) 272 (vw 16 F2) (0, 0) _ HB2.out.b1 Tryz.underlying272 rfl (by rw [vw_size]; exact info272) ?_))
              have hq2 := rquarter_ok F2 2 6 10 14 (by decide) (by decide) (by decide) (by decide)
              generalize quarterF F2 2 6 10 14 = F3 at *
              refine (hq2 _).mono ?_
              rintro e y3 ⟨rfl, hb⟩
              have HD3 := Lib.hid (HB2.out.below hb)
              have HB3 := Lib.hid (HD3.out.row F3)
              clear hb hq2
              go_wp2_with (first
                | (refine wpList_store_row rfl 272 (.tmp 10) (.tmp 50) (by rfl) g (vw 16 F3) (by rfl) (by rfl) 272 _ HD3.out.b1 (by rw [vw_size]; exact info272) (by rw [vw_size, vw_size]) (vw_one _ _) ?_)
                | (refine wpList_load_row rfl 272 (.tmp 10) (by rfl) g (by rfl) 272 (vw 16 F3) (0, 0) _ HB3.out.b1 Tryz.underlying272 rfl (by rw [vw_size]; exact info272) ?_))
              have hq3 := rquarter_ok F3 3 7 11 15 (by decide) (by decide) (by decide) (by decide)
              generalize quarterF F3 3 7 11 15 = F4 at *
              refine (hq3 _).mono ?_
              rintro e y4 ⟨rfl, hb⟩
              have HD4 := Lib.hid (HB3.out.below hb)
              have HB4 := Lib.hid (HD4.out.row F4)
              clear hb hq3
              go_wp2_with (first
                | (refine wpList_store_row rfl 272 (.tmp 10) (.tmp 52) (by rfl) g (vw 16 F4) (by rfl) (by rfl) 272 _ HD4.out.b1 (by rw [vw_size]; exact info272) (by rw [vw_size, vw_size]) (vw_one _ _) ?_)
                | (refine wpList_load_row rfl 272 (.tmp 10) (by rfl) g (by rfl) 272 (vw 16 F4) (0, 0) _ HB4.out.b1 Tryz.underlying272 rfl (by rw [vw_size]; exact info272) ?_))
              have hq4 := rquarter_ok F4 0 5 10 15 (by decide) (by decide) (by decide) (by decide)
              generalize quarterF F4 0 5 10 15 = F5 at *
              refine (hq4 _).mono ?_
              rintro e y5 ⟨rfl, hb⟩
              have HD5 := Lib.hid (HB4.out.below hb)
              have HB5 := Lib.hid (HD5.out.row F5)
              clear hb hq4
              go_wp2_with (first
                | (refine wpList_store_row rfl 272 (.tmp 10) (.tmp 54) (by rfl) g (vw 16 F5) (by rfl) (by rfl) 272 _ HD5.out.b1 (by rw [vw_size]; exact info272) (by rw [vw_size, vw_size]) (vw_one _ _) ?_)
                | (refine wpList_load_row rfl 272 (.tmp 10) (by rfl) g (by rfl) 272 (vw 16 F5) (0, 0) _ HB5.out.b1 Tryz.underlying272 rfl (by rw [vw_size]; exact info272) ?_))
              have hq5 := rquarter_ok F5 1 6 11 12 (by decide) (by decide) (by decide) (by decide)
              generalize quarterF F5 1 6 11 12 = F6 at *
              refine (hq5 _).mono ?_
              rintro e y6 ⟨rfl, hb⟩
              have HD6 := Lib.hid (HB5.out.below hb)
              have HB6 := Lib.hid (HD6.out.row F6)
              clear hb hq5
              go_wp2_with (first
                | (refine wpList_store_row rfl 272 (.tmp 10) (.tmp 56) (by rfl) g (vw 16 F6) (by rfl) (by rfl) 272 _ HD6.out.b1 (by rw [vw_size]; exact info272) (by rw [vw_size, vw_size]) (vw_one _ _) ?_)
                | (refine wpList_load_row rfl 272 (.tmp 10) (by rfl) g (by rfl) 272 (vw 16 F6) (0, 0) _ HB6.out.b1 Tryz.underlying272 rfl (by rw [vw_size]; exact info272) ?_))
              have hq6 := rquarter_ok F6 2 7 8 13 (by decide) (by decide) (by decide) (by decide)
              generalize quarterF F6 2 7 8 13 = F7 at *
              refine (hq6 _).mono ?_
              rintro e y7 ⟨rfl, hb⟩
              have HD7 := Lib.hid (HB6.out.below hb)
              have HB7 := Lib.hid (HD7.out.row F7)
              clear hb hq6
              go_wp2_with (first
                | (refine wpList_store_row rfl 272 (.tmp 10) (.tmp 58) (by rfl) g (vw 16 F7) (by rfl) (by rfl) 272 _ HD7.out.b1 (by rw [vw_size]; exact info272) (by rw [vw_size, vw_size]) (vw_one _ _) ?_)
                | (refine wpList_load_row rfl 272 (.tmp 10) (by rfl) g (by rfl) 272 (vw 16 F7) (0, 0) _ HB7.out.b1 Tryz.underlying272 rfl (by rw [vw_size]; exact info272) ?_))
              have hq7 := rquarter_ok F7 3 4 9 14 (by decide) (by decide) (by decide) (by decide)
              generalize quarterF F7 3 4 9 14 = F8 at *
              refine (hq7 _).mono ?_
              rintro e y8 ⟨rfl, hb⟩
              have HD8 := Lib.hid (HB7.out.below hb)
              have HB8 := Lib.hid (HD8.out.row F8)
              clear hb hq7
              go_wp2_with (refine wpList_store_row rfl 272 (.tmp 10) (.tmp 60) (by rfl) g (vw 16 F8) (by rfl) (by rfl) 272 _ HD8.out.b1 (by rw [vw_size]; exact info272) (by rw [vw_size, vw_size]) (vw_one _ _) ?_)
              go_roundg (gk - 1)
              case measure => omega
              case rel => exact ⟨j + 1, by omega, by go_num, by rw [HX.out]; exact HB8.out⟩
            · obtain rfl : j = 10 := by omega
              have hd : decide (((10 : Nat) : Int) < 10) = false := by decide
              generalize dblF f0 10 = ff at *
              go_wp2_with fail
              go_loopg [12, 13] (16 : Nat) (fun q v i wr => ∃ (k : Nat), q + k = 16 ∧ i = .int .i64 (k : Int) ∧ v = .string ⟨(outB f0 ff k).toArray⟩ ∧ RB w g f0 ff wr)
              case atStart => exact ⟨0, rfl, rfl, rfl, HB.out⟩
              case round =>
                obtain ⟨k, hk, rfl, rfl, ho⟩ := hrel
                have HO := Lib.hid ho
                clear ho HB
                have HSL : Hid ((⟨(outB f0 ff (k + 1)).toArray⟩ : ByteArray) = ⟨(outB f0 ff k).toArray⟩ ++ ⟨#[b8 (ff k + f0 k), b8 ((ff k + f0 k) >>> 8), b8 ((ff k + f0 k) >>> 16), b8 ((ff k + f0 k) >>> 24)]⟩) := by
                  apply ByteArray.ext
                  rw [ByteArray.data_append]
                  show (outB f0 ff k ++ [b8 (ff k + f0 k), b8 ((ff k + f0 k) >>> 8), b8 ((ff k + f0 k) >>> 16), b8 ((ff k + f0 k) >>> 24)]).toArray = (outB f0 ff k).toArray ++ #[b8 (ff k + f0 k), b8 ((ff k + f0 k) >>> 8), b8 ((ff k + f0 k) >>> 16), b8 ((ff k + f0 k) >>> 24)]
                  simp
                have hll : (⟨(outB f0 ff k).toArray⟩ : ByteArray).size = 4 * k := by
                  show (outB f0 ff k).toArray.size = 4 * k
                  rw [List.size_toArray]
                  exact outB_len f0 ff k
                have hcat : ¬ 9223372036854775807 < (⟨(outB f0 ff k).toArray⟩ : ByteArray).size + 4 := by omega
                by_cases hlt2 : k < 16
                · have hd : decide ((k : Int) < 16) = true := decide_eq_true (by omega)
                  have bk : (k : Int) < 16 := by omega
                  have nk : (0 : Int) ≤ k := by omega
                  have c0 := HO.out.b0.word k hlt2
                  have c1 := HO.out.b1.word k hlt2
                  have hq1 : (n32 (ff k + f0 k)).tdiv 16777216 = n32 ((ff k + f0 k) >>> 24) := div_u32 _ 24 (by decide) 16777216 rfl
                  have hq2 : (n32 (ff k + f0 k)).tdiv 65536 = n32 ((ff k + f0 k) >>> 16) := div_u32 _ 16 (by decide) 65536 rfl
                  have hq3 : (n32 (ff k + f0 k)).tdiv 256 = n32 ((ff k + f0 k) >>> 8) := div_u32 _ 8 (by decide) 256 rfl
                  have hcv := fun W => conv_word4d (b8 (ff k + f0 k)) (b8 ((ff k + f0 k) >>> 8)) (b8 ((ff k + f0 k) >>> 16)) (b8 ((ff k + f0 k) >>> 24)) W
                  have hz4 : (⟨#[b8 (ff k + f0 k), b8 ((ff k + f0 k) >>> 8), b8 ((ff k + f0 k) >>> 16), b8 ((ff k + f0 k) >>> 24)]⟩ : ByteArray).size = 4 := rfl
                  generalize hx : ff k + f0 k = x at *
                  generalize (⟨(outB f0 ff k).toArray⟩ : ByteArray) = M at *
                  generalize ff k = A at *
                  generalize f0 k = B at *
                  go_wp2_with fail
                  refine wp_region_plan (fun w' => w'.cell? ⟨w.heap.size, k, none⟩ = some (.int .u32 (n32 B)) ∧ w'.cell? ⟨g, k, none⟩ = some (.int .u32 (n32 A))) 7 [(true, 0), (true, 1), (true, 2), (true, 3), (true, 4), (true, 5), (true, 6)] (by kernel_rfl) (by kernel_rfl) ⟨c0, c1⟩ ?_
                  simp only [List.map_cons, List.map_nil, List.getD_cons_zero, List.getD_cons_succ, List.drop_succ_cons, List.drop_zero]
                  (refine plan_take (v := ?_) rfl ?_ ?_; rotate_left; (intro wS hSw; (try dsimp only at hSw); go_simp; try with_reducible rfl); simp only [Act.put, List.setIfInBounds_toArray, List.set_cons_zero, List.set_cons_succ])
                  (refine plan_take (v := ?_) rfl ?_ ?_; rotate_left; (intro wS hSw; (try dsimp only at hSw); go_simp; try with_reducible rfl); simp only [Act.put, List.setIfInBounds_toArray, List.set_cons_zero, List.set_cons_succ])
                  (refine plan_take (v := ?_) rfl ?_ ?_; rotate_left; (intro wS hSw; (try dsimp only at hSw); go_simp; try with_reducible rfl); simp only [Act.put, List.setIfInBounds_toArray, List.set_cons_zero, List.set_cons_succ])
                  (refine plan_take (v := ?_) rfl ?_ ?_; rotate_left; (intro wS hSw; (try dsimp only at hSw); go_simp; try with_reducible rfl); simp only [Act.put, List.setIfInBounds_toArray, List.set_cons_zero, List.set_cons_succ])
                  (refine plan_take (v := ?_) rfl ?_ ?_; rotate_left; (intro wS hSw; (try dsimp only at hSw); go_simp; try with_reducible rfl); simp only [Act.put, List.setIfInBounds_toArray, List.set_cons_zero, List.set_cons_succ])
                  (refine plan_take (v := ?_) rfl ?_ ?_; rotate_left; (intro wS hSw; (try dsimp only at hSw); go_simp; try with_reducible rfl); simp only [Act.put, List.setIfInBounds_toArray, List.set_cons_zero, List.set_cons_succ])
                  (refine plan_take (v := ?_) rfl ?_ ?_; rotate_left; (intro wS hSw; (try dsimp only at hSw); go_simp; try with_reducible rfl); simp only [Act.put, List.setIfInBounds_toArray, List.set_cons_zero, List.set_cons_succ])
                  refine plan_nil ?_
                  go_wp2_with fail
                  refine NoPanic.normal ?_
                  go_wp2_with fail
                  go_roundg (gk - 1)
                  case measure => omega
                  case rel => exact ⟨k + 1, by omega, by go_num, by rw [HSL.out], (HO.out.alloc _).drewN 1⟩
                · obtain rfl : k = 16 := by omega
                  have hd : decide (((16 : Nat) : Int) < 16) = false := by decide
                  go_wp2_with fail
                  go_ret
                  exact ⟨by rw [HBB.out]; rfl, HO.out.hb⟩

end Go.Proofs.YtimpjlnbbdfehaaGreatDoor
namespace Go.Proofs.YtimpjlnbbdfehaaGreatDoor
open Go.RowKit Go.Shelf Go.Lib Go.Sort
set_option linter.unusedVariables false
attribute [local go_sem ↓] shr_32_1 shl_32_1 shr_32_2 shl_32_2 shr_32_3 shl_32_3 shr_32_4 shl_32_4 shr_32_5 shl_32_5 shr_32_6 shl_32_6 shr_32_7 shl_32_7 shr_32_8 shl_32_8 shr_32_9 shl_32_9 shr_32_10 shl_32_10 shr_32_11 shl_32_11 shr_32_12 shl_32_12 shr_32_13 shl_32_13 shr_32_14 shl_32_14 shr_32_15 shl_32_15 shr_32_16 shl_32_16 shr_32_17 shl_32_17 shr_32_18 shl_32_18 shr_32_19 shl_32_19 shr_32_20 shl_32_20 shr_32_21 shl_32_21 shr_32_22 shl_32_22 shr_32_23 shl_32_23 shr_32_24 shl_32_24 shr_32_25 shl_32_25 shr_32_26 shl_32_26 shr_32_27 shl_32_27 shr_32_28 shl_32_28 shr_32_29 shl_32_29 shr_32_30 shl_32_30 shr_32_31 shl_32_31 shr_64_3 shl_64_3 shr_64_7 shl_64_7 shr_64_8 shl_64_8 shr_64_16 shl_64_16 shr_64_24 shl_64_24 shr_64_32 shl_64_32 shr_64_40 shl_64_40 shr_64_48 shl_64_48 shr_64_56 shl_64_56
attribute [local go_sem] add_u32 add_u64 and_u8 or_u8 xor_u8 and_u32 or_u32 xor_u32 and_u64 or_u64 xor_u64 conv_32_8 conv_64_8 conv_64_32 conv_8_32 conv_8_64 conv_32_64

theorem min_lt (p s k M : Nat) (hm : M = min 64 (s - p)) (hlt : k < M) : p + k < s ∧ p + k < p + 64 ∧ k < 64 := by omega
theorem lt_int (a b : Nat) (h : a < b) : decide ((a : Int) < (b : Int)) = true := decide_eq_true (by omega)
theorem nlt_int (a b : Nat) (h : ¬ a < b) : decide ((a : Int) < (b : Int)) = false := decide_eq_false (by omega)
theorem w64_add (p s : Nat) (h : p < s) (hs : s ≤ 100000) : wrap64 ((p : Int) + 64) = ((p + 64 : Nat) : Int) ∧ IntKind.i64.wrap ((p : Int) + 64) = ((p + 64 : Nat) : Int) := ⟨w64_small _ (by omega) (by omega), wrap_in _ (by omega) (by omega)⟩
theorem w64_sub (p k : Nat) (hs : k < 64) : wrap64 (((p + k : Nat) : Int) - (p : Int)) = (k : Int) ∧ IntKind.i64.wrap (((p + k : Nat) : Int) - (p : Int)) = (k : Int) := by
  rw [show ((p + k : Nat) : Int) - (p : Int) = (k : Int) by omega]
  exact ⟨w64_small _ (by omega) (by omega), wrap_in _ (by omega) (by omega)⟩
theorem min_end (p s k : Nat) (hm : k = min 64 (s - p)) (hc : s < p + 64) (hlt : p < s) : p + k = s := by omega
theorem min_64 (p s k : Nat) (hm : k = min 64 (s - p)) (hc : ¬ s < p + 64) : k = 64 := by omega
theorem end_le (p s j : Nat) (hp : p = 64 * j) (hc : s < p + 64) : s ≤ 64 * (j + 1) := by omega
theorem next64 (p j : Nat) (hp : p = 64 * j) : p + 64 = 64 * (j + 1) := by omega
theorem w64_one (n s : Nat) (h : n < s) (hs : s ≤ 100000) : wrap64 ((n : Int) + 1) = ((n + 1 : Nat) : Int) ∧ IntKind.i64.wrap ((n : Int) + 1) = ((n + 1 : Nat) : Int) := ⟨w64_small _ (by omega) (by omega), wrap_in _ (by omega) (by omega)⟩
theorem steps_left (g j N p s : Nat) (hj : g + j = N) (hN : N = (s + 63) / 64) (hp : p = 64 * j) (hlt : p < s) : 0 < g := by omega
theorem info5' : (Tryz.prog.info? 5).map (fun i => (i.zero, i.size, i.bytes)) = some (some (.int .u8 0), 1, 1) := info5
set_option maxHeartbeats 8000000 in
set_option maxRecDepth 100000 in
theorem rturn_ok (key nonce s : ByteArray) (hk : key.size = 32) (hn : nonce.size = 12) (hs : s.size ≤ 100000) (w : World) :
    Calls Tryz.prog 119 #[.string key, .string nonce, .string s] w fun e w' => e = .returned (.string (turnB key nonce s)) ∧ Below w.heap.size w w' := by
  have HBK := Lib.hid (fun n w => rblock_ok key nonce n hk hn w)
  have HR : Hid (turnB key nonce s = ⟨(turnL key nonce s.data.toList).toArray⟩) := rfl
  obtain ⟨L, hL⟩ : ∃ L, L = s.data.toList := ⟨_, rfl⟩
  have hLl : L.length = s.size := by rw [hL]; simp
  have HLL := Lib.hid hLl
  have HSZ := Lib.hid hs
  have HGB : Hid (∀ k, k < s.size → (turnL key nonce L)[k]? = some (gb s k ^^^ padAt key nonce k)) := fun k hk => by
    rw [turnL_get key nonce L k (by omega)]
    subst hL
    rw [gb_at]
  clear hk hn hLl hs
  rw [← hL] at HR
  clear hL
  go_enter Tryz.func119, Tryz.ntmps119
  go_wp2_with fail
  obtain ⟨N, hN⟩ : ∃ N, N = (s.size + 63) / 64 := ⟨_, rfl⟩
  have HN := Lib.hid hN
  clear hN
  go_loopg [7, 8] N (fun q v i wr => ∃ (j : Nat), q + j = N ∧ i = .int .i64 ((64 * j : Nat) : Int) ∧ OwnB wr w.heap.size v ((turnL key nonce L).take (64 * j)) ∧ Below w.heap.size w wr)
  case atStart => exact ⟨0, rfl, rfl, by have := OwnB.of_blk (l := []) (B := w.heap.size) (g := w.heap.size) (w := w.alloc (.cells #[] 5)) (Blk.new w 5 _) (Nat.le_refl _); simpa using this, (Below.refl _ _).alloc (Nat.le_refl _) _⟩
  case round =>
    obtain ⟨j, hj, rfl, ho, hb⟩ := hrel
    have HO := Lib.hid ho
    have HB := Lib.hid hb
    obtain ⟨A0, cp0, hv0⟩ := ho.form
    clear ho hb
    subst hv0
    have hps0 := HSZ.out
    obtain ⟨p, hp⟩ : ∃ p, p = 64 * j := ⟨_, rfl⟩
    have HP := Lib.hid hp
    rw [← hp] at HO ⊢
    by_cases hlt : p < s.size
    · have hgk : 0 < gk := steps_left gk j N p s.size hj HN.out HP.out hlt
      have hd : decide ((p : Int) < (s.size : Int)) = true := decide_eq_true (by omega)
      have hd' : decide (p < s.size) = true := decide_eq_true hlt
      have hq : (p : Int).tdiv 64 = (j : Int) := by rw [Int.tdiv_eq_ediv_of_nonneg (by omega)]; omega
      have hu : IntKind.u32.wrap (j : Int) = n32 (UInt32.ofNat j) := by
        have e : (UInt32.ofNat j).toNat = j := UInt32.toNat_ofNat_of_lt' (by have := HSZ.out; simp [UInt32.size]; omega)
        rw [wrap_u32]; unfold n32
        rw [e]
        have := HSZ.out
        omega
      have w1 : wrap64 (j : Int) = (j : Int) := w64_small _ (by omega) (by have := HSZ.out; omega)
      have w2 : IntKind.i64.wrap (j : Int) = (j : Int) := wrap_in _ (by omega) (by have := HSZ.out; omega)
      have HBL : Hid (∀ k, k < 64 → padAt key nonce (64 * j + k) = gb (blockB key nonce (UInt32.ofNat j)) k) := fun k hk => by
        show gb (blockB key nonce (UInt32.ofNat ((64 * j + k) / 64))) ((64 * j + k) % 64) = _
        rw [show (64 * j + k) / 64 = j by omega, show (64 * j + k) % 64 = k by omega]
      rw [← hp] at HBL
      clear hp
      have HQK := Lib.hid (HBK.out (UInt32.ofNat j))
      have HBS := Lib.hid (blockB_size key nonce (UInt32.ofNat j))
      generalize blockB key nonce (UInt32.ofNat j) = BK at *
      go_wp2_with (go_at_call 166; refine (HQK.out _).mono ?_; rintro e w3 ⟨rfl, hb⟩; have HB3 := Lib.hid hb; clear hb)
      clear HQK hq hu w1 w2 hd hd'
      have HO3 : Hid (OwnB w3 w.heap.size _ ((turnL key nonce L).take p)) := HO.out.below HB3.out (Nat.le_refl _)
      have HB4 := Lib.hid (HB.out.trans (HB3.out.mono HB.out.size))
      obtain ⟨gko, rfl⟩ : ∃ g : Nat, g = gk := ⟨_, rfl⟩
      obtain ⟨M, hM⟩ : ∃ M, M = min 64 (s.size - p) := ⟨_, rfl⟩
      have HM := Lib.hid hM
      clear hM HO HB HB3
      go_loopg [7, 10] M (fun q v i wr => ∃ (k : Nat), q + k = M ∧ i = .int .i64 ((p + k : Nat) : Int) ∧ OwnB wr w.heap.size v ((turnL key nonce L).take (p + k)) ∧ Below w.heap.size w wr)
      case atStart => exact ⟨0, rfl, rfl, by have := HO3.out; simpa using this, HB4.out⟩
      case round =>
        obtain ⟨k, hk, rfl, ho, hb⟩ := hrel
        have HO := Lib.hid ho
        have HB := Lib.hid hb
        obtain ⟨A, cp, hv⟩ := ho.form
        clear ho hb HO3 HB4
        subst hv
        obtain ⟨wa', wa⟩ := w64_add p s.size hlt HSZ.out
        by_cases hlt2 : k < M
        · obtain ⟨h1, h2, h3⟩ := min_lt p s.size k M HM.out hlt2
          have hd1 := lt_int _ _ h2
          have hd2 := lt_int _ _ h1
          have hd3 : decide (p + k < s.size) = true := decide_eq_true h1
          have hd4 : decide (p + k < p + 64) = true := decide_eq_true h2
          have hix := fun W => ix_str s (p + k) ((p + k : Nat) : Int) rfl h1 W
          have hix2 := fun W => ix_str BK k (k : Int) rfl (by rw [HBS.out]; exact h3) W
          obtain ⟨hsub', hsub⟩ := w64_sub p k h3
          obtain ⟨hs1', hs1⟩ := w64_one (p + k) s.size h1 HSZ.out
          have HT : Hid ((turnL key nonce L).take (p + (k + 1)) = (turnL key nonce L).take (p + k) ++ [gb s (p + k) ^^^ gb BK k]) := by
            show _ = _
            rw [← Nat.add_assoc, List.take_add_one, HGB.out (p + k) h1, HBL.out k h3]
            rfl
          have HLN : Hid (((turnL key nonce L).take (p + k)).length ≤ 100000) := by
            show _ ≤ _
            rw [List.length_take, turnL_len, HLL.out]
            exact Nat.le_trans (Nat.min_le_right _ _) HSZ.out
          clear h1 h2 h3
          generalize gb s (p + k) = x1 at *
          generalize gb BK k = x2 at *
          generalize (turnL key nonce L).take (p + k) = T at *
          generalize hpk : p + k = pk at *
          have HPK := Lib.hid hpk
          clear hpk
          generalize hp64 : p + 64 = p6 at *
          clear hp64
          go_wp2_with fail
          refine wp_region_plan (fun w' => OwnB w' w.heap.size (.slice A T.length cp) T ∧ Below w.heap.size w w') 11 [(true, 0), (true, 1), (true, 2), (true, 3), (true, 4), (true, 5), (true, 6), (true, 7), (true, 8), (true, 9), (false, 10)] (by kernel_rfl) (by kernel_rfl) ⟨HO.out.drew, below_drewN HB.out 1⟩ ?_
          simp only [List.map_cons, List.map_nil, List.getD_cons_zero, List.getD_cons_succ, List.drop_succ_cons, List.drop_zero]
          (refine plan_take (v := ?_) rfl ?_ ?_; rotate_left; (intro wS hSw; (try dsimp only at hSw); go_simp; try with_reducible rfl); simp only [Act.put, List.setIfInBounds_toArray, List.set_cons_zero, List.set_cons_succ])
          (refine plan_take (v := ?_) rfl ?_ ?_; rotate_left; (intro wS hSw; (try dsimp only at hSw); go_simp; try with_reducible rfl); simp only [Act.put, List.setIfInBounds_toArray, List.set_cons_zero, List.set_cons_succ])
          (refine plan_take (v := ?_) rfl ?_ ?_; rotate_left; (intro wS hSw; (try dsimp only at hSw); go_simp; try with_reducible rfl); simp only [Act.put, List.setIfInBounds_toArray, List.set_cons_zero, List.set_cons_succ])
          (refine plan_take (v := ?_) rfl ?_ ?_; rotate_left; (intro wS hSw; (try dsimp only at hSw); go_simp; try with_reducible rfl); simp only [Act.put, List.setIfInBounds_toArray, List.set_cons_zero, List.set_cons_succ])
          (refine plan_take (v := ?_) rfl ?_ ?_; rotate_left; (intro wS hSw; (try dsimp only at hSw); go_simp; try with_reducible rfl); simp only [Act.put, List.setIfInBounds_toArray, List.set_cons_zero, List.set_cons_succ])
          (refine plan_take (v := ?_) rfl ?_ ?_; rotate_left; (intro wS hSw; (try dsimp only at hSw); go_simp; try with_reducible rfl); simp only [Act.put, List.setIfInBounds_toArray, List.set_cons_zero, List.set_cons_succ])
          (refine plan_take (v := ?_) rfl ?_ ?_; rotate_left; (intro wS hSw; (try dsimp only at hSw); go_simp; try with_reducible rfl); simp only [Act.put, List.setIfInBounds_toArray, List.set_cons_zero, List.set_cons_succ])
          (refine plan_take (v := ?_) rfl ?_ ?_; rotate_left; (intro wS hSw; (try dsimp only at hSw); go_simp; try with_reducible rfl); simp only [Act.put, List.setIfInBounds_toArray, List.set_cons_zero, List.set_cons_succ])
          (refine plan_take (v := ?_) rfl ?_ ?_; rotate_left; (intro wS hSw; (try dsimp only at hSw); go_simp; try with_reducible rfl); simp only [Act.put, List.setIfInBounds_toArray, List.set_cons_zero, List.set_cons_succ])
          (refine plan_take (v := ?_) rfl ?_ ?_; rotate_left; (intro wS hSw; (try dsimp only at hSw); go_simp; try with_reducible rfl); simp only [Act.put, List.setIfInBounds_toArray, List.set_cons_zero, List.set_cons_succ])
          refine plan_run rfl (fun K hK => ?_)
          go_simp
          have HO4 : Hid (OwnB (wr.drew.alloc (.cells (bv [x1 ^^^ x2]).toArray 5)) w.heap.size (.slice A T.length cp) T) := (HO.out.drew).below ((Below.refl _ _).alloc (Nat.le_refl _) _) (Nat.le_refl _)
          have HB4 : Hid (Below w.heap.size w (wr.drew.alloc (.cells (bv [x1 ^^^ x2]).toArray 5))) := (below_drewN HB.out 1).alloc HB.out.size _
          refine hK.out _ _ ⟨HO4.out, HB4.out⟩ ?_
          clear hK K
          try simp only [Act.put, List.setIfInBounds_toArray, List.set_cons_zero, List.set_cons_succ]
          refine plan_nil ?_
          go_wp2_with (at_builtin; go_must (refine wpList_append_ob rfl (.tmp 37) (.tmp 47) rfl w.heap.size _ T (by rfl) HO4.out ⟨wr.heap.size, 0, none⟩ 1 1 [x1 ^^^ x2] (by rfl) rfl (by simp) (fresh_bytes wr.drew _) (by have := HLN.out; simp; omega) (Nat.le_trans HB.out.size (by simp)) ?_; intro v3 w3 ho hb; have HO5 := Lib.hid ho; have HB5 : Hid (Below w.heap.size w w3) := HB4.out.trans hb; clear ho hb))
          refine NoPanic.normal ?_
          go_wp2_with fail
          go_roundg (gk - 1)
          case measure => omega
          case rel => exact ⟨k + 1, by omega, by rw [← Nat.add_assoc, HPK.out]; first | rw [hs1] | rw [hs1'] | rfl, by rw [HT.out]; exact HO5.out, HB5.out⟩
        · obtain rfl : k = M := by omega
          have hm := HM.out
          by_cases hc : s.size < p + 64
          · have hks : p + k = s.size := min_end p s.size k hm hc hlt
            have hd1 := lt_int (p + k) (p + 64) (by rw [hks]; exact hc)
            have hd2 := nlt_int (p + k) s.size (by rw [hks]; exact Nat.lt_irrefl _)
            have hd3 : decide (p + k < s.size) = false := decide_eq_false (by rw [hks]; exact Nat.lt_irrefl _)
            have hd4 : decide (p + k < p + 64) = true := decide_eq_true (by rw [hks]; exact hc)
            have HNX : Hid ((turnL key nonce L).take (64 * (j + 1)) = (turnL key nonce L).take (p + k)) := by
              show _ = _
              rw [List.take_of_length_le (by rw [turnL_len, HLL.out]; exact end_le p s.size j HP.out hc), List.take_of_length_le (by rw [turnL_len, HLL.out, hks]; exact Nat.le_refl _)]
            generalize (turnL key nonce L).take (p + k) = T at *
            have HNN : Hid (p + 64 = 64 * (j + 1)) := next64 p j HP.out
            clear hks hm hc
            generalize p + k = pk at *
            generalize hp64 : p + 64 = p6 at *
            go_wp2_with fail
            go_roundg (gko - 1)
            case measure => omega
            case rel => exact ⟨j + 1, by omega, by rw [← HNN.out], by rw [HNX.out]; exact HO.out, HB.out⟩
          · have hk64 : k = 64 := min_64 p s.size k hm hc
            subst hk64
            have hd1 := nlt_int (p + 64) (p + 64) (Nat.lt_irrefl _)
            have hd4 : decide (p + 64 < p + 64) = false := decide_eq_false (Nat.lt_irrefl _)
            have HNX : Hid ((turnL key nonce L).take (64 * (j + 1)) = (turnL key nonce L).take (p + 64)) := by show _ = _; rw [next64 p j HP.out]
            generalize (turnL key nonce L).take (p + 64) = T at *
            have HNN : Hid (p + 64 = 64 * (j + 1)) := next64 p j HP.out
            clear hm hc
            generalize hp64 : p + 64 = p6 at *
            go_wp2_with fail
            go_roundg (gko - 1)
            case measure => omega
            case rel => exact ⟨j + 1, by omega, by rw [← HNN.out], by rw [HNX.out]; exact HO.out, HB.out⟩
    · have hd : decide ((p : Int) < (s.size : Int)) = false := decide_eq_false (by omega)
      have hd' : decide (p < s.size) = false := decide_eq_false hlt
      have HTE : Hid ((turnL key nonce L).take p = turnL key nonce L) := List.take_of_length_le (by rw [turnL_len, HLL.out]; omega)
      generalize (turnL key nonce L).take p = T at *
      have hcv := conv_ob HO.out
      clear HO
      go_wp2_with fail
      go_ret
      exact ⟨by rw [HR.out, ← HTE.out]; rfl, HB.out⟩

end Go.Proofs.YtimpjlnbbdfehaaGreatDoor
namespace Go.Proofs.YtimpjlnbbdfehaaGreatDoor
open Go.RowKit Go.Shelf Go.Lib Go.Sort
set_option linter.unusedVariables false
attribute [local go_sem ↓] shr_32_1 shl_32_1 shr_32_2 shl_32_2 shr_32_3 shl_32_3 shr_32_4 shl_32_4 shr_32_5 shl_32_5 shr_32_6 shl_32_6 shr_32_7 shl_32_7 shr_32_8 shl_32_8 shr_32_9 shl_32_9 shr_32_10 shl_32_10 shr_32_11 shl_32_11 shr_32_12 shl_32_12 shr_32_13 shl_32_13 shr_32_14 shl_32_14 shr_32_15 shl_32_15 shr_32_16 shl_32_16 shr_32_17 shl_32_17 shr_32_18 shl_32_18 shr_32_19 shl_32_19 shr_32_20 shl_32_20 shr_32_21 shl_32_21 shr_32_22 shl_32_22 shr_32_23 shl_32_23 shr_32_24 shl_32_24 shr_32_25 shl_32_25 shr_32_26 shl_32_26 shr_32_27 shl_32_27 shr_32_28 shl_32_28 shr_32_29 shl_32_29 shr_32_30 shl_32_30 shr_32_31 shl_32_31 shr_64_3 shl_64_3 shr_64_7 shl_64_7 shr_64_8 shl_64_8 shr_64_16 shl_64_16 shr_64_24 shl_64_24 shr_64_32 shl_64_32 shr_64_40 shl_64_40 shr_64_48 shl_64_48 shr_64_56 shl_64_56
attribute [local go_sem] add_u32 add_u64 and_u8 or_u8 xor_u8 and_u32 or_u32 xor_u32 and_u64 or_u64 xor_u64 conv_32_8 conv_64_8 conv_64_32 conv_8_32 conv_8_64 conv_32_64

set_option maxHeartbeats 4000000 in
set_option maxRecDepth 100000 in
theorem rseal_ok (k mac nonce s : ByteArray) (place : Int) (hk : k.size = 32) (hm : mac.size ≤ 64) (hn : nonce.size = 12) (hs : s.size ≤ 100000) (w : World) :
    Calls Tryz.prog 76 #[.string k, .string mac, .int .i64 place, .string nonce, .string s] w fun e w' => e = .returned (.string (sealP k mac place nonce s)) ∧ Below w.heap.size w w' := by
  have HTU := Lib.hid (fun w => rturn_ok k nonce s hk hn hs w)
  have HR : Hid (sealP k mac place nonce s = turnB k nonce s ++ tagB mac (be4 (pl32 place) ++ nonce ++ turnB k nonce s)) := rfl
  have hts : (turnB k nonce s).size = s.size := by
    show (turnL k nonce s.data.toList).toArray.size = s.size
    rw [List.size_toArray, turnL_len]
    simp
  have hh := fun w => rhigh_ok (pl32 place).toNat (by have := (pl32 place).toNat_lt; omega) 4 (by omega) w
  rw [← be4_hi] at hh
  have HH := Lib.hid hh
  clear hh
  have hw := wrap_pl place
  have h64 : IntKind.u64.wrap (n32 (pl32 place)) = ((pl32 place).toNat : Int) := by rw [wrap_u64]; unfold n32; have := (pl32 place).toNat_lt; omega
  have h64' : n32 (pl32 place) % 18446744073709551616 = ((pl32 place).toNat : Int) := by unfold n32; have := (pl32 place).toNat_lt; omega
  have hb4 := be4_size (pl32 place)
  generalize be4 (pl32 place) = b4 at *
  generalize turnB k nonce s = t at *
  have hc1 : ¬ 9223372036854775807 < b4.size + nonce.size := by omega
  have hc2 : ¬ 9223372036854775807 < b4.size + nonce.size + t.size := by omega
  have hc3 : ¬ 9223372036854775807 < t.size + (tagB mac (b4 ++ nonce ++ t)).size := by rw [tagB_size]; omega
  have HTG := Lib.hid (fun w => rtag_ok mac (b4 ++ nonce ++ t) hm (by rw [size_app, size_app]; omega) w)
  generalize hq : tagB mac (b4 ++ nonce ++ t) = tg at *
  have hc1' : ¬ 9223372036854775807 < 4 + nonce.size := by omega
  have hc2' : ¬ 9223372036854775807 < 4 + nonce.size + t.size := by omega
  clear hk hn hs hq
  go_enter Tryz.func76, Tryz.ntmps76
  go_wp2_with fail
  refine (HTU.out _).mono ?_
  rintro x w1 ⟨rfl, hb⟩
  have HB1 := Lib.hid hb
  clear hb
  go_wp2_with fail
  refine (HH.out _).mono ?_
  rintro x w2 ⟨rfl, hb⟩
  have HB2 := Lib.hid (HB1.out.trans (hb.mono HB1.out.size))
  clear hb HB1
  go_wp2_with fail
  refine (HTG.out _).mono ?_
  rintro x w3 ⟨rfl, hb⟩
  have HB3 := Lib.hid (HB2.out.trans (hb.mono HB2.out.size))
  clear hb HB2
  go_wp2_with fail
  go_ret
  exact ⟨by rw [HR.out]; rfl, HB3.out⟩

end Go.Proofs.YtimpjlnbbdfehaaGreatDoor
namespace Go.Proofs.YtimpjlnbbdfehaaGreatDoor
open Go.RowKit Go.Shelf Go.Lib Go.Sort
set_option linter.unusedVariables false
attribute [local go_sem ↓] shr_32_1 shl_32_1 shr_32_2 shl_32_2 shr_32_3 shl_32_3 shr_32_4 shl_32_4 shr_32_5 shl_32_5 shr_32_6 shl_32_6 shr_32_7 shl_32_7 shr_32_8 shl_32_8 shr_32_9 shl_32_9 shr_32_10 shl_32_10 shr_32_11 shl_32_11 shr_32_12 shl_32_12 shr_32_13 shl_32_13 shr_32_14 shl_32_14 shr_32_15 shl_32_15 shr_32_16 shl_32_16 shr_32_17 shl_32_17 shr_32_18 shl_32_18 shr_32_19 shl_32_19 shr_32_20 shl_32_20 shr_32_21 shl_32_21 shr_32_22 shl_32_22 shr_32_23 shl_32_23 shr_32_24 shl_32_24 shr_32_25 shl_32_25 shr_32_26 shl_32_26 shr_32_27 shl_32_27 shr_32_28 shl_32_28 shr_32_29 shl_32_29 shr_32_30 shl_32_30 shr_32_31 shl_32_31 shr_64_3 shl_64_3 shr_64_7 shl_64_7 shr_64_8 shl_64_8 shr_64_16 shl_64_16 shr_64_24 shl_64_24 shr_64_32 shl_64_32 shr_64_40 shl_64_40 shr_64_48 shl_64_48 shr_64_56 shl_64_56
attribute [local go_sem] add_u32 add_u64 and_u8 or_u8 xor_u8 and_u32 or_u32 xor_u32 and_u64 or_u64 xor_u64 conv_32_8 conv_64_8 conv_64_32 conv_8_32 conv_8_64 conv_32_64

theorem be8_hi (x : UInt64) : be8 x = hiN x.toNat 8 := by
  have hx := x.toNat_lt
  have h1 : (lo32 (x >>> 32)).toNat = x.toNat / 4294967296 := by
    show (x >>> 32).toUInt32.toNat = _
    rw [UInt64.toNat_toUInt32, UInt64.toNat_shiftRight]
    show x.toNat >>> 32 % _ = _
    rw [Nat.shiftRight_eq_div_pow]
    omega
  have h0 : (lo32 x).toNat = x.toNat % 4294967296 := by
    show x.toUInt32.toNat = _
    rw [UInt64.toNat_toUInt32]
  unfold be8
  rw [be4_hi, be4_hi, h1, h0]
  generalize x.toNat = n at *
  apply ByteArray.ext
  apply Array.ext'
  have e7 : n / 4294967296 / 256 ^ 3 % 256 = n / 256 ^ 7 % 256 := by omega
  have e6 : n / 4294967296 / 256 ^ 2 % 256 = n / 256 ^ 6 % 256 := by omega
  have e5 : n / 4294967296 / 256 ^ 1 % 256 = n / 256 ^ 5 % 256 := by omega
  have e4 : n / 4294967296 / 256 ^ 0 % 256 = n / 256 ^ 4 % 256 := by omega
  have e3 : n % 4294967296 / 256 ^ 3 % 256 = n / 256 ^ 3 % 256 := by omega
  have e2 : n % 4294967296 / 256 ^ 2 % 256 = n / 256 ^ 2 % 256 := by omega
  have e1 : n % 4294967296 / 256 ^ 1 % 256 = n / 256 ^ 1 % 256 := by omega
  have e0 : n % 4294967296 / 256 ^ 0 % 256 = n / 256 ^ 0 % 256 := by omega
  show [UInt8.ofNat (n / 4294967296 / 256 ^ 3 % 256), UInt8.ofNat (n / 4294967296 / 256 ^ 2 % 256), UInt8.ofNat (n / 4294967296 / 256 ^ 1 % 256), UInt8.ofNat (n / 4294967296 / 256 ^ 0 % 256), UInt8.ofNat (n % 4294967296 / 256 ^ 3 % 256), UInt8.ofNat (n % 4294967296 / 256 ^ 2 % 256), UInt8.ofNat (n % 4294967296 / 256 ^ 1 % 256), UInt8.ofNat (n % 4294967296 / 256 ^ 0 % 256)] = [UInt8.ofNat (n / 256 ^ 7 % 256), UInt8.ofNat (n / 256 ^ 6 % 256), UInt8.ofNat (n / 256 ^ 5 % 256), UInt8.ofNat (n / 256 ^ 4 % 256), UInt8.ofNat (n / 256 ^ 3 % 256), UInt8.ofNat (n / 256 ^ 2 % 256), UInt8.ofNat (n / 256 ^ 1 % 256), UInt8.ofNat (n / 256 ^ 0 % 256)]
  rw [e7, e6, e5, e4, e3, e2, e1, e0]
theorem len_hi (n : Nat) (hn : n ≤ 462) : (be4 (pl32 (n : Int))).extract 2 4 = hiN n 2 := by
  have hp : (pl32 (n : Int)).toNat = n := by
    unfold pl32
    rw [UInt32.toNat_ofNat_of_lt' (by show _ < 4294967296; omega)]
    omega
  rw [be4_hi, hp]
  have e : hiN n 4 = (⟨#[UInt8.ofNat (n / 256 ^ 3 % 256)]⟩ ++ ⟨#[UInt8.ofNat (n / 256 ^ 2 % 256)]⟩) ++ hiN n 2 := by
    rw [ByteArray.append_assoc]; rfl
  rw [e]
  exact ext_last _ _ 2 4 rfl (by rw [hiN_size]; rfl)
theorem zer_zero (j : Nat) : zeroB j = zerS j := by
  unfold zeroB zerS
  congr 2
  induction j with
  | zero => rfl
  | succ j ih => show [0] ++ Lib.repeatL _ j = _; rw [show Lib.repeatL (⟨#[0]⟩ : ByteArray).data.toList j = List.replicate j 0 from ih]; rfl
set_option maxHeartbeats 4000000 in
set_option maxRecDepth 100000 in
theorem rput_ok (m : ByteArray) (h : Hd) (place : Int) (s : ByteArray) (hm : m.size ≤ 900000) (hs : s.size ≤ 462) (w : World) :
    Calls Tryz.prog 22 #[.string m, h.v, .int .i64 place, .string s] w fun x w' => x = .returned (.string (blockP m h place s)) ∧ Below w.heap.size w w' := by
  have HR : Hid (blockP m h place s = be4 h.ep ++ nonB h ++ sealP (keyB m h.ep) (macB m h.ep) place (nonB h) (plainB s)) := rfl
  have HNB : Hid (nonB h = be8 h.dev ++ be4 h.num) := rfl
  have HPL : Hid (plainB s = hiN s.size 2 ++ s ++ zerS (462 - s.size)) := by show _ = _; rw [← zer_zero, ← len_hi s.size hs]; rfl
  have hps := plainB_size s hs
  have h8 := fun w => rhigh_ok h.dev.toNat (by have := h.dev.toNat_lt; omega) 8 (by omega) w
  rw [← be8_hi] at h8
  have H8 := Lib.hid h8
  have h4n := fun w => rhigh_ok h.num.toNat (by have := h.num.toNat_lt; omega) 4 (by omega) w
  rw [← be4_hi] at h4n
  have H4N := Lib.hid h4n
  have h4e := fun w => rhigh_ok h.ep.toNat (by have := h.ep.toNat_lt; omega) 4 (by omega) w
  rw [← be4_hi] at h4e
  have H4E := Lib.hid h4e
  have H2 := Lib.hid (fun w => rhigh_ok s.size (by omega) 2 (by omega) w)
  clear h8 h4n h4e
  have HKE := Lib.hid (fun w => rkeys_ok m h.ep hm w)
  have HSE := Lib.hid (fun w => rseal_ok (keyB m h.ep) (macB m h.ep) (nonB h) (plainB s) place (keyB_size _ _) (by rw [macB_size]; omega) (nonB_size h) (by omega) w)
  have hn64 : IntKind.u64.wrap (n32 h.num) = (h.num.toNat : Int) := by rw [wrap_u64]; unfold n32; have := h.num.toNat_lt; omega
  have hn64' : n32 h.num % 18446744073709551616 = (h.num.toNat : Int) := by unfold n32; have := h.num.toNat_lt; omega
  have he64 : IntKind.u64.wrap (n32 h.ep) = (h.ep.toNat : Int) := by rw [wrap_u64]; unfold n32; have := h.ep.toNat_lt; omega
  have he64' : n32 h.ep % 18446744073709551616 = (h.ep.toNat : Int) := by unfold n32; have := h.ep.toNat_lt; omega
  have hs64 : IntKind.u64.wrap (s.size : Int) = (s.size : Int) := by rw [wrap_u64]; omega
  have hs64' : (s.size : Int) % 18446744073709551616 = (s.size : Int) := by omega
  have hd64 : n64 h.dev = (h.dev.toNat : Int) := rfl
  have z8 := be8_size h.dev
  have z4n := be4_size h.num
  have z4e := be4_size h.ep
  have hc1 : ¬ 9223372036854775807 < 8 + 4 := by omega
  have hc2 : ¬ 9223372036854775807 < 2 + s.size := by omega
  have hz2 := hiN_size s.size 2
  have hss : (sealP (keyB m h.ep) (macB m h.ep) place (nonB h) (plainB s)).size = 496 := by
    unfold sealP
    rw [size_app, sealT_size]
    have : (turnB (keyB m h.ep) (nonB h) (plainB s)).size = (plainB s).size := by
      show (turnL _ _ (plainB s).data.toList).toArray.size = _
      rw [List.size_toArray, turnL_len]; simp
    omega
  have znb := nonB_size h
  have HSS := Lib.hid hss
  have HHS := Lib.hid hs
  have hv : h.v = .agg #[.int .u32 (n32 h.ep), .int .u64 (n64 h.dev), .int .u32 (n32 h.num)] := rfl
  have HA0 : Hid (Blk (w.alloc (.cells #[.int .u32 (n32 h.ep), .int .u64 (n64 h.dev), .int .u32 (n32 h.num)] 36)) w.heap.size 36 #[.int .u32 (n32 h.ep), .int .u64 (n64 h.dev), .int .u32 (n32 h.num)]) := Blk.new w 36 _
  have HB0 : Hid (Below w.heap.size w (w.alloc (.cells #[.int .u32 (n32 h.ep), .int .u64 (n64 h.dev), .int .u32 (n32 h.num)] 36))) := (Below.refl _ _).alloc (Nat.le_refl _) _
  rw [hv]
  clear hv hm hss hs
  rw [hd64] at HA0 HB0 ⊢
  clear hd64
  generalize blockP m h place s = RES at *
  generalize sealP (keyB m h.ep) (macB m h.ep) place (nonB h) (plainB s) = SL at *
  generalize keyB m h.ep = kb at *
  generalize macB m h.ep = mb at *
  generalize nonB h = NB at *
  generalize plainB s = PL at *
  generalize be8 h.dev = d8 at *
  generalize be4 h.num = n4 at *
  generalize be4 h.ep = e4 at *
  generalize (h.dev.toNat : Nat) = dv at *
  go_enter Tryz.func22, Tryz.ntmps22
  go_wp2_with fail
  generalize w.alloc (.cells #[.int .u32 (n32 h.ep), .int .u64 (dv : Int), .int .u32 (n32 h.num)] 36) = w0 at *
  have c1 : w0.cell? ⟨w.heap.size, 1, none⟩ = some (.int .u64 (dv : Int)) := HA0.out.cell 1
  have c2 : w0.cell? ⟨w.heap.size, 2, none⟩ = some (.int .u32 (n32 h.num)) := HA0.out.cell 2
  refine wp_region_plan (fun w' => Blk w' w.heap.size 36 #[.int .u32 (n32 h.ep), .int .u64 (dv : Int), .int .u32 (n32 h.num)] ∧ Below w.heap.size w w') 8 [(true, 0), (true, 1), (true, 3), (true, 4), (true, 5), (false, 2), (false, 6), (true, 7)] (by kernel_rfl) (by kernel_rfl) ⟨HA0.out.drewN 1, below_drewN HB0.out 1⟩ ?_
  simp only [List.map_cons, List.map_nil, List.getD_cons_zero, List.getD_cons_succ, List.drop_succ_cons, List.drop_zero]
  (refine plan_take (v := ?_) rfl ?_ ?_; rotate_left; (rintro wS ⟨hSa, hSb⟩; (try dsimp only at hSa hSb); have q1 := hSa.cell 1; have q2 := hSa.cell 2; simp only [List.getElem?_toArray, List.getElem?_cons_succ, List.getElem?_cons_zero] at q1 q2; go_simp; try with_reducible rfl); simp only [Act.put, List.setIfInBounds_toArray, List.set_cons_zero, List.set_cons_succ])
  (refine plan_take (v := ?_) rfl ?_ ?_; rotate_left; (rintro wS ⟨hSa, hSb⟩; (try dsimp only at hSa hSb); have q1 := hSa.cell 1; have q2 := hSa.cell 2; simp only [List.getElem?_toArray, List.getElem?_cons_succ, List.getElem?_cons_zero] at q1 q2; go_simp; try with_reducible rfl); simp only [Act.put, List.setIfInBounds_toArray, List.set_cons_zero, List.set_cons_succ])
  (refine plan_take (v := ?_) rfl ?_ ?_; rotate_left; (rintro wS ⟨hSa, hSb⟩; (try dsimp only at hSa hSb); have q1 := hSa.cell 1; have q2 := hSa.cell 2; simp only [List.getElem?_toArray, List.getElem?_cons_succ, List.getElem?_cons_zero] at q1 q2; go_simp; try with_reducible rfl); simp only [Act.put, List.setIfInBounds_toArray, List.set_cons_zero, List.set_cons_succ])
  (refine plan_take (v := ?_) rfl ?_ ?_; rotate_left; (rintro wS ⟨hSa, hSb⟩; (try dsimp only at hSa hSb); have q1 := hSa.cell 1; have q2 := hSa.cell 2; simp only [List.getElem?_toArray, List.getElem?_cons_succ, List.getElem?_cons_zero] at q1 q2; go_simp; try with_reducible rfl); simp only [Act.put, List.setIfInBounds_toArray, List.set_cons_zero, List.set_cons_succ])
  (refine plan_take (v := ?_) rfl ?_ ?_; rotate_left; (rintro wS ⟨hSa, hSb⟩; (try dsimp only at hSa hSb); have q1 := hSa.cell 1; have q2 := hSa.cell 2; simp only [List.getElem?_toArray, List.getElem?_cons_succ, List.getElem?_cons_zero] at q1 q2; go_simp; try with_reducible rfl); simp only [Act.put, List.setIfInBounds_toArray, List.set_cons_zero, List.set_cons_succ])
  refine plan_run rfl (fun K hK => ?_)
  go_simp
  refine (H8.out _).mono ?_
  rintro x w1 ⟨rfl, hb⟩
  have HB1 : Hid (Below w.heap.size w w1) := (below_drewN HB0.out 1).trans (Below.mono hb HB0.out.size)
  have HA1 : Hid (Blk w1 w.heap.size 36 #[.int .u32 (n32 h.ep), .int .u64 (dv : Int), .int .u32 (n32 h.num)]) := (Below.block hb _ (HA0.out.drewN 1).lt).trans (HA0.out.drewN 1)
  clear hb
  refine hK.out _ _ ⟨HA1.out, HB1.out⟩ ?_
  clear hK K
  try simp only [Act.put, List.setIfInBounds_toArray, List.set_cons_zero, List.set_cons_succ]
  refine plan_run rfl (fun K hK => ?_)
  go_simp
  refine (H4N.out _).mono ?_
  rintro x w2 ⟨rfl, hb⟩
  have HB2 : Hid (Below w.heap.size w w2) := HB1.out.trans (hb.mono HB1.out.size)
  have HA2 : Hid (Blk w2 w.heap.size 36 #[.int .u32 (n32 h.ep), .int .u64 (dv : Int), .int .u32 (n32 h.num)]) := (hb.block _ HA1.out.lt).trans HA1.out
  clear hb
  refine hK.out _ _ ⟨HA2.out, HB2.out⟩ ?_
  clear hK K
  try simp only [Act.put, List.setIfInBounds_toArray, List.set_cons_zero, List.set_cons_succ]
  (refine plan_take (v := ?_) rfl ?_ ?_; rotate_left; (rintro wS ⟨hSa, hSb⟩; (try dsimp only at hSa hSb); have q1 := hSa.cell 1; have q2 := hSa.cell 2; simp only [List.getElem?_toArray, List.getElem?_cons_succ, List.getElem?_cons_zero] at q1 q2; go_simp; try with_reducible rfl); simp only [Act.put, List.setIfInBounds_toArray, List.set_cons_zero, List.set_cons_succ])
  refine plan_nil ?_
  go_wp2_with fail
  refine NoPanic.normal ?_
  clear c1 c2 HB0 HA0
  rw [← HNB.out]
  have c0 : w2.cell? ⟨w.heap.size, 0, none⟩ = some (.int .u32 (n32 h.ep)) := HA2.out.cell 0
  go_wp2_with fail
  refine (HKE.out _).mono ?_
  rintro x w3 ⟨rfl, hb⟩
  have HB3 : Hid (Below w.heap.size w w3) := HB2.out.trans (hb.mono HB2.out.size)
  have HA3 : Hid (Blk w3 w.heap.size 36 #[.int .u32 (n32 h.ep), .int .u64 (dv : Int), .int .u32 (n32 h.num)]) := (hb.block _ HA2.out.lt).trans HA2.out
  clear hb HB2 HA2 c0 HB1 HA1
  go_wp2_with fail
  refine (H2.out _).mono ?_
  rintro x w4 ⟨rfl, hb⟩
  have HB4 : Hid (Below w.heap.size w w4) := HB3.out.trans (hb.mono HB3.out.size)
  have HA4 : Hid (Blk w4 w.heap.size 36 #[.int .u32 (n32 h.ep), .int .u64 (dv : Int), .int .u32 (n32 h.num)]) := (hb.block _ HA3.out.lt).trans HA3.out
  clear hb HB3 HA3
  have HT1 : Hid ((hiN s.size 2 ++ s).size = 2 + s.size) := by show _ = _; rw [size_app, hz2]
  generalize hh2 : hiN s.size 2 = l2 at *
  go_wp2_with fail
  generalize l2 ++ s = X at *
  clear hc2 hs64 hs64' hh2 hz2 H2
  go_loopg [12] (462 - s.size) (fun q v wr => ∃ (j : Nat), q + j = 462 - s.size ∧ v = .string (X ++ zerS j) ∧ wr = w4)
  case atStart => exact ⟨0, rfl, by congr 1; exact (ByteArray.ext (by rw [ByteArray.data_append]; exact (Array.append_empty).symm)), rfl⟩
  case round =>
    obtain ⟨j, hj, rfl, rfl⟩ := hrel
    have hss := HHS.out
    have hsz : (X ++ zerS j).size = 2 + s.size + j := by rw [size_app, zerS_size, HT1.out]
    by_cases hlt : j < 462 - s.size
    · have hd : decide (2 + (s.size : Int) + (j : Int) < 464) = true := decide_eq_true (by omega)
      have hd' : decide (2 + s.size + j < 464) = true := decide_eq_true (by omega)
      have hcat : ¬ 9223372036854775807 < 2 + s.size + j + 1 := by omega
      have HA := Lib.hid (zerS_succ X j)
      generalize X ++ zerS j = Y at *
      go_wp2_with fail
      go_roundg (gk - 1)
      case measure => omega
      case rel => exact ⟨j + 1, by omega, by rw [HA.out], rfl⟩
    · obtain rfl : j = 462 - s.size := by omega
      have hd : decide ((464 : Int) < 464) = false := by decide
      have hsz4 : (X ++ zerS (462 - s.size)).size = 464 := by omega
      clear hsz
      rw [← HPL.out] at hsz4 ⊢
      have c0 : wr.cell? ⟨w.heap.size, 0, none⟩ = some (.int .u32 (n32 h.ep)) := HA4.out.cell 0
      have hc5 : ¬ 9223372036854775807 < 4 + 12 := by omega
      have hc6 : ¬ 9223372036854775807 < 4 + 12 + SL.size := by rw [HSS.out]; omega
      have hc7 : (e4 ++ NB).size = 16 := by rw [size_app]; omega
      go_wp2_with fail
      refine (H4E.out _).mono ?_
      rintro x w5 ⟨rfl, hb⟩
      have HB5 : Hid (Below w.heap.size w w5) := HB4.out.trans (hb.mono HB4.out.size)
      clear hb
      go_wp2_with fail
      refine (HSE.out _).mono ?_
      rintro x w6 ⟨rfl, hb⟩
      have HB6 : Hid (Below w.heap.size w w6) := HB5.out.trans (hb.mono HB5.out.size)
      clear hb
      go_wp2_with fail
      go_ret
      exact ⟨by rw [HR.out]; rfl, HB6.out⟩

end Go.Proofs.YtimpjlnbbdfehaaGreatDoor
namespace Go.Proofs.YtimpjlnbbdfehaaGreatDoor
open Go.RowKit Go.Shelf Go.Lib Go.Sort
set_option linter.unusedVariables false
attribute [local go_sem ↓] shr_32_1 shl_32_1 shr_32_2 shl_32_2 shr_32_3 shl_32_3 shr_32_4 shl_32_4 shr_32_5 shl_32_5 shr_32_6 shl_32_6 shr_32_7 shl_32_7 shr_32_8 shl_32_8 shr_32_9 shl_32_9 shr_32_10 shl_32_10 shr_32_11 shl_32_11 shr_32_12 shl_32_12 shr_32_13 shl_32_13 shr_32_14 shl_32_14 shr_32_15 shl_32_15 shr_32_16 shl_32_16 shr_32_17 shl_32_17 shr_32_18 shl_32_18 shr_32_19 shl_32_19 shr_32_20 shl_32_20 shr_32_21 shl_32_21 shr_32_22 shl_32_22 shr_32_23 shl_32_23 shr_32_24 shl_32_24 shr_32_25 shl_32_25 shr_32_26 shl_32_26 shr_32_27 shl_32_27 shr_32_28 shl_32_28 shr_32_29 shl_32_29 shr_32_30 shl_32_30 shr_32_31 shl_32_31 shr_64_3 shl_64_3 shr_64_7 shl_64_7 shr_64_8 shl_64_8 shr_64_16 shl_64_16 shr_64_24 shl_64_24 shr_64_32 shl_64_32 shr_64_40 shl_64_40 shr_64_48 shl_64_48 shr_64_56 shl_64_56
attribute [local go_sem] add_u32 add_u64 and_u8 or_u8 xor_u8 and_u32 or_u32 xor_u32 and_u64 or_u64 xor_u64 conv_32_8 conv_64_8 conv_64_32 conv_8_32 conv_8_64 conv_32_64

theorem pblen_ok {w : World} {i : Ids} {st : PS} {own : Nat → Nat} (h : SysC w i st own) :
    Calls Tryz.prog 23 #[.pointer (some ⟨i.b, 0, none⟩)] w fun e w' => e = .returned (.int .i64 (st.b.sums.length : Int)) ∧ w = w' := by
  obtain ⟨F, ⟨nb, hb, _⟩, hO⟩ := h.book
  exact blen_ok hb
/-- What is laid, with so many reads. -/
def laysS (k : Nat) (t : ByteArray) (r : Nat) : PS := { (PS.new 6 1).lay (k : Int) t with reads := r }
def laysH : Hd := (PS.new 6 1).hd
def laysX (k : Nat) (t : ByteArray) : ByteArray := blockP masterB laysH (k : Int) t
theorem lays_get (k : Nat) (t : ByteArray) (r : Nat) : (laysS k t r).d.get k = laysX k t := DS.get_write _ k _
theorem lays_bget (k : Nat) (t : ByteArray) (ht : t.size ≤ 462) : bgetF masterB k (laysX k t) = (laysH, t, 0) := bget_put _ _ _ _ ht
theorem lays_okN (k : Nat) (t : ByteArray) (ht : t.size ≤ 462) : ((PS.new 6 1).lay (k : Int) t).okN 1 := PS.lay_okN (PS.new_okN 6 1 (by omega)) _ _ ht
theorem lays_ok (k : Nat) (t : ByteArray) (ht : t.size ≤ 462) (r : Nat) (hr : r ≤ 10) : (laysS k t r).ok :=
  ⟨((lays_okN k t ht).ok (by omega)).d, ((lays_okN k t ht).ok (by omega)).key, by show r ≤ 1000000; omega⟩
theorem lays_book (k : Nat) (t : ByteArray) (r : Nat) : (laysS k t r).b.sum (laysX k t) = (laysS k t r).b := by
  show (BkS.new.sum (laysX k t)).sum (laysX k t) = BkS.new.sum (laysX k t)
  generalize laysX k t = X
  simp [BkS.sum, BkS.new, mget, mput]
theorem lays_len (k : Nat) (t : ByteArray) (r : Nat) : (laysS k t r).b.sums.length = 1 := by
  show (BkS.new.sum (laysX k t)).sums.length = 1
  generalize laysX k t = X
  simp [BkS.sum, BkS.new, mget, mput]
theorem lays_fetchS (k : Nat) (t : ByteArray) (r : Nat) (sum : ByteArray) : (laysS k t r).fetchS k sum = laysS k t (r + 1) := by
  unfold PS.fetchS
  by_cases h : sum = ⟨#[]⟩
  · rw [if_pos h]; rfl
  · rw [if_neg h, lays_get, lays_book]; rfl
theorem lays_fetchV (k : Nat) (t : ByteArray) (ht : t.size ≤ 462) (r : Nat) (sum : ByteArray) (hs : sum = ⟨#[]⟩ ∨ sumB (laysX k t) = sum) : (laysS k t r).fetchV k sum = (laysH, t, laysX k t, 0) := by
  unfold PS.fetchV
  rw [lays_get, show (laysS k t r).v.key = masterB from rfl, lays_bget k t ht]
  rw [if_neg (by rintro ⟨h1, h2⟩; rcases hs with h | h; exact h1 h; exact h2 h), if_neg (by simp)]
theorem lays_fetchO (k : Nat) (t : ByteArray) (r : Nat) (sum : ByteArray) (h1 : sum ≠ ⟨#[]⟩) (h2 : sumB (laysX k t) ≠ sum) : (laysS k t r).fetchV k sum = (hdZ, ⟨#[]⟩, ⟨#[]⟩, 8) := by
  unfold PS.fetchV
  rw [lays_get, if_pos ⟨h1, h2⟩]
theorem lays_three {w : World} {i : Ids} {own : Nat → Nat} (k : Nat) (hk : k < 6) (t : ByteArray) (ht : t.size ≤ 462) (r : Nat) (hr : r ≤ 9) (h : SysC w i (laysS k t r) own) (sum : ByteArray) (hs : sum = ⟨#[]⟩ ∨ sumB (laysX k t) = sum) :
    Calls Tryz.prog 19 #[.pointer (some ⟨i.p, 0, none⟩), .int .i64 (k : Int), .string sum] w (PT i w own (laysS k t (r + 1)) (.tuple #[.agg #[.int .u32 (n32 laysH.ep), .int .u64 (n64 laysH.dev), .int .u32 (n32 laysH.num)], .string t, .string (laysX k t), .int .i64 0])) := by
  have ok := lays_ok k t ht r (by omega)
  have hl : k < (laysS k t r).d.sure.length := by show k < (List.replicate 6 _).length; simpa using hk
  have hv := lays_fetchV k t ht r sum hs
  have hS := lays_fetchS k t r sum
  rcases hs with rfl | rfl
  · have := fetch_any h ok k hl
    rw [hv, hS] at this
    exact this
  · have := fetch_same h ok k hl
    rw [lays_get, hv, hS] at this
    exact this
theorem lays_other {w : World} {i : Ids} {own : Nat → Nat} (k : Nat) (hk : k < 6) (t : ByteArray) (ht : t.size ≤ 462) (r : Nat) (hr : r ≤ 9) (h : SysC w i (laysS k t r) own) (sum : ByteArray) (h1 : sum ≠ ⟨#[]⟩) (h2 : sumB (laysX k t) ≠ sum) :
    Calls Tryz.prog 19 #[.pointer (some ⟨i.p, 0, none⟩), .int .i64 (k : Int), .string sum] w (PT i w own (laysS k t (r + 1)) (.tuple #[.agg #[.int .u32 0, .int .u64 0, .int .u32 0], .string ⟨#[]⟩, .string ⟨#[]⟩, .int .i64 8])) := by
  have ok := lays_ok k t ht r (by omega)
  have hl : k < (laysS k t r).d.sure.length := by show k < (List.replicate 6 _).length; simpa using hk
  have hv := lays_fetchO k t r sum h1 h2
  have hS := lays_fetchS k t r sum
  have := fetch_other h ok k hl sum h1 (by rw [lays_get]; exact h2)
  rw [hv, hS] at this
  exact this
theorem lays_lay {w : World} {i : Ids} {own : Nat → Nat} (k : Nat) (hk : k < 6) (t : ByteArray) (ht : t.size ≤ 462) (h : SysC w i (PS.new 6 1) own) :
    Calls Tryz.prog 17 #[.pointer (some ⟨i.p, 0, none⟩), .int .i64 (k : Int), .string t] w (PT i w own (laysS k t 0) (.tuple #[.string (sumB (laysX k t)), .string (laysX k t), .int .i64 0])) :=
  lay_ok h ((PS.new_okN 6 1 (by omega)).ok (by omega)) k (by show k < (List.replicate 6 _).length; simpa using hk) t ht
theorem lays_read {w : World} {i : Ids} {own : Nat → Nat} (k : Nat) (hk : k < 6) (t : ByteArray) (r : Nat) (h : SysC w i (laysS k t r) own) :
    Calls Tryz.prog 18 #[.pointer (some ⟨i.d, 0, none⟩), .int .i64 (k : Int)] w fun e w' => e = .returned (.tuple #[.string (laysX k t), .int .i64 0]) ∧ w = w' := by
  have := pdread_ok h (by show (List.replicate 6 _).length ≤ 100000; simp) k (by show k < (List.replicate 6 _).length; simpa using hk)
  rwa [lays_get] at this
theorem x512 (k : Nat) (t : ByteArray) (ht : t.size ≤ 462) : (laysX k t).size = 512 := blockP_size _ _ _ _ ht
theorem cut_to (s : ByteArray) (m : Nat) : (s.extract 0 (min s.size m)).size ≤ m := by
  rw [ByteArray.size_extract]; omega
theorem masterB_lit : masterB = ⟨#[48, 49, 50, 51, 52, 53, 54, 55, 56, 57, 97, 98, 99, 100, 101, 102, 48, 49, 50, 51, 52, 53, 54, 55, 56, 57, 97, 98, 99, 100, 101, 102]⟩ := rfl
theorem undef_bool {b : Bool} (h : some undef = some (Value.bool b)) : False := by injection h with h; cases h
theorem str_ne2 {a b : ByteArray} (h : ¬ a = b) : (a.toList == b.toList) = false := by
  simp only [beq_eq_false_iff_ne, ne_eq]
  intro e
  rw [Lib.toList_data, Lib.toList_data] at e
  exact h (ByteArray.ext (Array.toList_inj.1 e))
set_option maxHeartbeats 8000000 in
set_option maxRecDepth 100000 in
theorem lays_walk (n : Int) (s other : ByteArray) (W : World) (hT : Salts W) :
    Calls Tryz.prog 3 #[.int .i64 n, .string s, .string other] W fun e w' => e = .returned (.bool true) ∧ Below W.heap.size W w' := by
  have HM : Hid (Calls Tryz.prog 16 #[.int .i64 6, .int .i64 1] W (Made 6 1 W)) := made_ok 6 1 (by omega) (by omega) W hT
  have ha3 := and3 n
  obtain ⟨k, hk⟩ : ∃ k : Nat, n % 4 + 1 = (k : Int) := ⟨(n % 4 + 1).toNat, by omega⟩
  have hk6 : k < 6 := by omega
  have hwk : IntKind.i64.wrap (k : Int) = (k : Int) := wrap_in _ (by omega) (by omega)
  have hwk' : wrap64 (k : Int) = (k : Int) := w64_small _ (by omega) (by omega)
  have hw1 : IntKind.i64.wrap (n % 4 + 1) = (k : Int) := by rw [hk]; exact wrap_in _ (by omega) (by omega)
  have hw2 : wrap64 (n % 4 + 1) = (k : Int) := by rw [hk]; exact w64_small _ (by omega) (by omega)
  have hsl := fun w => slice_to s ((min s.size 462 : Nat) : Int) (min s.size 462) rfl (Nat.min_le_left _ _) w
  have hmin : min (s.size : Int) 462 = ((min s.size 462 : Nat) : Int) := by omega
  have ht := cut_to s 462
  have hsl2 := fun w => slice_to other ((min other.size 50 : Nat) : Int) (min other.size 50) rfl (Nat.min_le_left _ _) w
  have hmin2 : min (other.size : Int) 50 = ((min other.size 50 : Nat) : Int) := by omega
  have ho := cut_to other 50
  generalize s.extract 0 (min s.size 462) = t at *
  generalize other.extract 0 (min other.size 50) = o at *
  have HLAY := Lib.hid (fun w i own (h : SysC w i (PS.new 6 1) own) => lays_lay k hk6 t ht h)
  have HRD := Lib.hid (fun w i own r (h : SysC w i (laysS k t r) own) => lays_read k hk6 t r h)
  have HF3 := Lib.hid (fun w i own r (hr : r ≤ 9) (h : SysC w i (laysS k t r) own) sum hs => lays_three k hk6 t ht r hr h sum hs)
  have HFO := Lib.hid (fun w i own r (hr : r ≤ 9) (h : SysC w i (laysS k t r) own) sum h1 h2 => lays_other k hk6 t ht r hr h sum h1 h2)
  have HPU := Lib.hid (fun w => rput_ok masterB laysH (k : Int) t (by rw [masterB_size]; omega) ht w)
  have HXE : Hid (blockP masterB laysH (k : Int) t = laysX k t) := rfl
  rw [HXE.out, masterB_lit] at HPU
  have HSX := Lib.hid (fun w => rSum_ok (laysX k t) (by rw [x512 k t ht]; omega) w)
  have HSO := Lib.hid (fun w => rSum_ok o (by omega) w)
  have HLE := Lib.hid (fun r => lays_len k t r)
  have HSF := Lib.hid (sumB_full o)
  have hv : laysH.v = .agg #[.int .u32 (n32 laysH.ep), .int .u64 (n64 laysH.dev), .int .u32 (n32 laysH.num)] := rfl
  rw [hv] at HPU
  clear hv ht ho hT HXE
  generalize laysX k t = X at *
  generalize (n32 laysH.ep : Int) = q0 at *
  generalize (n64 laysH.dev : Int) = q1 at *
  generalize (n32 laysH.num : Int) = q2 at *
  generalize (laysS k t) = ST at *
  go_enter Tryz.func3, Tryz.ntmps3
  go_wp2_with fail
  refine HM.out.mono ?_
  rintro e w1 ⟨i, own1, rfl, h1, hb1, hz1⟩
  have H1 := Lib.hid h1
  have K1 := Lib.hid (keeps_made hb1 hz1)
  clear h1 hb1 hz1 HM
  go_wp2_with fail
  refine wp_region_plan (fun w' => True) 9 [(true, 0), (true, 1), (true, 2), (true, 3), (true, 4), (true, 5), (true, 6), (true, 7), (true, 8)] (by kernel_rfl) (by kernel_rfl) trivial ?_
  simp only [List.map_cons, List.map_nil, List.getD_cons_zero, List.getD_cons_succ, List.drop_succ_cons, List.drop_zero]
  (refine plan_take (v := ?_) rfl ?_ ?_; rotate_left; (intro wS hSw; (try dsimp only at hSw); go_simp; try with_reducible rfl); simp only [Act.put, List.setIfInBounds_toArray, List.set_cons_zero, List.set_cons_succ])
  (refine plan_take (v := ?_) rfl ?_ ?_; rotate_left; (intro wS hSw; (try dsimp only at hSw); go_simp; try with_reducible rfl); simp only [Act.put, List.setIfInBounds_toArray, List.set_cons_zero, List.set_cons_succ])
  (refine plan_take (v := ?_) rfl ?_ ?_; rotate_left; (intro wS hSw; (try dsimp only at hSw); go_simp; try with_reducible rfl); simp only [Act.put, List.setIfInBounds_toArray, List.set_cons_zero, List.set_cons_succ])
  (refine plan_take (v := ?_) rfl ?_ ?_; rotate_left; (intro wS hSw; (try dsimp only at hSw); go_simp; try with_reducible rfl); simp only [Act.put, List.setIfInBounds_toArray, List.set_cons_zero, List.set_cons_succ])
  (refine plan_take (v := ?_) rfl ?_ ?_; rotate_left; (intro wS hSw; (try dsimp only at hSw); go_simp; try with_reducible rfl); simp only [Act.put, List.setIfInBounds_toArray, List.set_cons_zero, List.set_cons_succ])
  (refine plan_take (v := ?_) rfl ?_ ?_; rotate_left; (intro wS hSw; (try dsimp only at hSw); go_simp; try with_reducible rfl); simp only [Act.put, List.setIfInBounds_toArray, List.set_cons_zero, List.set_cons_succ])
  (refine plan_take (v := ?_) rfl ?_ ?_; rotate_left; (intro wS hSw; (try dsimp only at hSw); go_simp; try with_reducible rfl); simp only [Act.put, List.setIfInBounds_toArray, List.set_cons_zero, List.set_cons_succ])
  (refine plan_take (v := ?_) rfl ?_ ?_; rotate_left; (intro wS hSw; (try dsimp only at hSw); go_simp; try with_reducible rfl); simp only [Act.put, List.setIfInBounds_toArray, List.set_cons_zero, List.set_cons_succ])
  (refine plan_take (v := ?_) rfl ?_ ?_; rotate_left; (intro wS hSw; (try dsimp only at hSw); go_simp; try with_reducible rfl); simp only [Act.put, List.setIfInBounds_toArray, List.set_cons_zero, List.set_cons_succ])
  refine plan_nil ?_
  go_wp2_with fail
  refine NoPanic.normal ?_
  go_wp2_with fail
  obtain ⟨own2, h2, k2⟩ := H1.out.drew (Keeps.refl _ _) 1
  have K2 := Lib.hid (K1.out.trans k2)
  have HL := Lib.hid (HLAY.out _ _ _ h2)
  clear h2 k2 H1 K1 HLAY
  refine HL.out.mono ?_
  rintro e w3 ⟨rfl, own3, h3, k3⟩
  have H3 := Lib.hid h3
  have K3 := Lib.hid (K2.out.trans k3)
  have HR3 := Lib.hid (HRD.out _ _ _ _ h3)
  clear h3 k3 HL K2 HRD
  go_wp2_with fail
  refine HR3.out.mono ?_
  rintro e w4 ⟨rfl, rfl⟩
  go_wp2_with fail
  have HC1 := Lib.hid (HF3.out _ _ _ 0 (by omega) H3.out (sumB X) (.inr rfl))
  refine HC1.out.mono ?_
  rintro e w4 ⟨rfl, own4, h4, k4⟩
  have HA4 : Hid (Blk (w4.alloc (.cells #[.int .u32 0, .int .u64 0, .int .u32 0] 36)) w4.heap.size 36 #[.int .u32 0, .int .u64 0, .int .u32 0]) := Blk.new w4 36 _
  obtain ⟨own5, h5, k5, b5, z5⟩ := one_box h4 36 #[.int .u32 0, .int .u64 0, .int .u32 0] #[.int .u32 q0, .int .u64 q1, .int .u32 q2]
  have H5 := Lib.hid h5
  have K5 := Lib.hid ((K3.out.trans k4).trans k5)
  have B5 := Lib.hid b5
  have Z5 := Lib.hid z5
  clear h4 k4 h5 k5 b5 z5 HC1 HR3 H3 K3
  go_wp2_with (first
    | (refine wpList_store_row rfl 36 (.tmp 18) (.tmp 64) (by rfl) w4.heap.size #[.int .u32 q0, .int .u64 q1, .int .u32 q2] (by rfl) (by rfl) 36 _ HA4.out info36 (by rfl) (by simp [Value.oneCell']) ?_; generalize (w4.alloc (.cells #[.int .u32 0, .int .u64 0, .int .u32 0] 36)).setRow w4.heap.size #[.int .u32 q0, .int .u64 q1, .int .u32 q2] = w5 at *)
    | fail)
  have HC2 := Lib.hid (HF3.out _ _ _ 1 (by omega) H5.out ⟨#[]⟩ (.inl rfl))
  clear HA4
  generalize w4.heap.size = g5 at *
  refine HC2.out.mono ?_
  rintro e w6 ⟨rfl, own6, h6, k6⟩
  have HA6 : Hid (Blk (w6.alloc (.cells #[.int .u32 0, .int .u64 0, .int .u32 0] 36)) w6.heap.size 36 #[.int .u32 0, .int .u64 0, .int .u32 0]) := Blk.new w6 36 _
  obtain ⟨own7, h7, k7, b7, z7⟩ := one_box h6 36 #[.int .u32 0, .int .u64 0, .int .u32 0] #[.int .u32 q0, .int .u64 q1, .int .u32 q2]
  have H7 := Lib.hid h7
  have K7 := Lib.hid ((K5.out.trans k6).trans k7)
  have B7 := Lib.hid ((k6.trans k7).blk B5.out Z5.out)
  have Z7 := Lib.hid (((k6.trans k7).same _ B5.out.lt).trans Z5.out)
  clear h6 k6 h7 k7 b7 z7 HC2 H5 K5 B5 Z5
  go_wp2_with (first
    | (refine wpList_store_row rfl 36 (.tmp 22) (.tmp 72) (by rfl) w6.heap.size #[.int .u32 q0, .int .u64 q1, .int .u32 q2] (by rfl) (by rfl) 36 _ HA6.out info36 (by rfl) (by simp [Value.oneCell']) ?_; generalize (w6.alloc (.cells #[.int .u32 0, .int .u64 0, .int .u32 0] 36)).setRow w6.heap.size #[.int .u32 q0, .int .u64 q1, .int .u32 q2] = w7 at *)
    | fail)
  clear HA6
  generalize w6.heap.size = g7 at *
  refine (HSO.out _).mono ?_
  rintro e w8 ⟨rfl, hb⟩
  obtain ⟨h8, k8⟩ := H7.out.none_step (only_of_below hb)
  have H8 := Lib.hid h8
  have K8 := Lib.hid (K7.out.trans k8)
  have B8 := Lib.hid (k8.blk B7.out Z7.out)
  have Z8 := Lib.hid ((k8.same _ B7.out.lt).trans Z7.out)
  clear hb h8 k8 H7 K7 B7 Z7 HSO
  generalize mark w7 own7 0 = own8 at *
  generalize sumB o = so at *
  by_cases hso : so = sumB X
  · subst hso
    have HC3 := Lib.hid (HF3.out _ _ _ 2 (by omega) H8.out (sumB X) (.inr rfl))
    go_wp2_with fail
    refine HC3.out.mono ?_
    rintro e w9 ⟨rfl, own9, h9, k9⟩
    have HA9 : Hid (Blk (w9.alloc (.cells #[.int .u32 0, .int .u64 0, .int .u32 0] 36)) w9.heap.size 36 #[.int .u32 0, .int .u64 0, .int .u32 0]) := Blk.new w9 36 _
    obtain ⟨own10, h10, k10, b10, z10⟩ := one_box h9 36 #[.int .u32 0, .int .u64 0, .int .u32 0] #[.int .u32 q0, .int .u64 q1, .int .u32 q2]
    have H10 := Lib.hid h10
    have K10 := Lib.hid ((K8.out.trans k9).trans k10)
    have B10 := Lib.hid ((k9.trans k10).blk B8.out Z8.out)
    have Z10 := Lib.hid (((k9.trans k10).same _ B8.out.lt).trans Z8.out)
    clear h9 k9 h10 k10 b10 z10 HC3 H8 K8 B8 Z8 HF3 HFO
    go_wp2_with (first
      | (refine wpList_store_row rfl 36 (.tmp 27) (.tmp 87) (by rfl) w9.heap.size #[.int .u32 q0, .int .u64 q1, .int .u32 q2] (by rfl) (by rfl) 36 _ HA9.out info36 (by rfl) (by simp [Value.oneCell']) ?_; generalize (w9.alloc (.cells #[.int .u32 0, .int .u64 0, .int .u32 0] 36)).setRow w9.heap.size #[.int .u32 q0, .int .u64 q1, .int .u32 q2] = w10 at *)
      | fail)
    clear HA9
    generalize w9.heap.size = g9 at *
    refine (aw_ok _ H10.out.salts).mono ?_
    rintro e w11 ⟨rfl, hb⟩
    obtain ⟨h11, k11⟩ := H10.out.none_step (only_of_below hb)
    have H11 := Lib.hid h11
    have K11 := Lib.hid (K10.out.trans k11)
    have B11 := Lib.hid (k11.blk B10.out Z10.out)
    have Z11 := Lib.hid ((k11.same _ B10.out.lt).trans Z10.out)
    clear hb h11 k11 H10 K10 B10 Z10
    generalize mark w10 own10 0 = own11 at *
    go_wp2_with fail
    refine (HSX.out _).mono ?_
    rintro e w12 ⟨rfl, hb⟩
    obtain ⟨h12, k12⟩ := H11.out.none_step (only_of_below hb)
    have H12 := Lib.hid h12
    have K12 := Lib.hid (K11.out.trans k12)
    have B12 := Lib.hid (k12.blk B11.out Z11.out)
    have Z12 := Lib.hid ((k12.same _ B11.out.lt).trans Z11.out)
    clear hb h12 k12 H11 K11 B11 Z11
    generalize mark w11 own11 0 = own12 at *
    have b0 := B12.out.cell 0
    have b1 := B12.out.cell 1
    have b2 := B12.out.cell 2
    simp only [List.getElem?_toArray, List.getElem?_cons_succ, List.getElem?_cons_zero] at b0 b1 b2
    go_wp2_with fail
    refine (HPU.out _).mono ?_
    rintro e w13 ⟨rfl, hb⟩
    obtain ⟨h13, k13⟩ := H12.out.none_step (only_of_below hb)
    have K13 := Lib.hid (K12.out.trans k13)
    have HN := Lib.hid (pblen_ok h13)
    have HL1 : Hid ((ST 3).b.sums.length = 1) := HLE.out 3
    clear hb h13 k13 H12 K12 B12 Z12 b0 b1 b2
    go_wp2_with fail
    all_goals try (exfalso; apply undef_bool; assumption)
    refine HN.out.mono ?_
    rintro e w14 ⟨rfl, rfl⟩
    rw [HL1.out]
    go_wp2_with fail
    go_ret
    exact ⟨rfl, below_of_keeps K13.out⟩
  · have HC3 := Lib.hid (HFO.out _ _ _ 2 (by omega) H8.out so HSF.out (fun h => hso h.symm))
    go_wp2_with fail
    refine HC3.out.mono ?_
    rintro e w9 ⟨rfl, own9, h9, k9⟩
    have HA9 : Hid (Blk (w9.alloc (.cells #[.int .u32 0, .int .u64 0, .int .u32 0] 36)) w9.heap.size 36 #[.int .u32 0, .int .u64 0, .int .u32 0]) := Blk.new w9 36 _
    obtain ⟨own10, h10, k10, b10, z10⟩ := one_box h9 36 #[.int .u32 0, .int .u64 0, .int .u32 0] #[.int .u32 0, .int .u64 0, .int .u32 0]
    have H10 := Lib.hid h10
    have K10 := Lib.hid ((K8.out.trans k9).trans k10)
    have B10 := Lib.hid ((k9.trans k10).blk B8.out Z8.out)
    have Z10 := Lib.hid (((k9.trans k10).same _ B8.out.lt).trans Z8.out)
    clear h9 k9 h10 k10 b10 z10 HC3 H8 K8 B8 Z8 HF3 HFO
    go_wp2_with (first
      | (refine wpList_store_row rfl 36 (.tmp 27) (.tmp 87) (by rfl) w9.heap.size #[.int .u32 0, .int .u64 0, .int .u32 0] (by rfl) (by rfl) 36 _ HA9.out info36 (by rfl) (by simp [Value.oneCell']) ?_; generalize (w9.alloc (.cells #[.int .u32 0, .int .u64 0, .int .u32 0] 36)).setRow w9.heap.size #[.int .u32 0, .int .u64 0, .int .u32 0] = w10 at *)
      | fail)
    clear HA9
    generalize w9.heap.size = g9 at *
    refine (aw_ok _ H10.out.salts).mono ?_
    rintro e w11 ⟨rfl, hb⟩
    obtain ⟨h11, k11⟩ := H10.out.none_step (only_of_below hb)
    have H11 := Lib.hid h11
    have K11 := Lib.hid (K10.out.trans k11)
    have B11 := Lib.hid (k11.blk B10.out Z10.out)
    have Z11 := Lib.hid ((k11.same _ B10.out.lt).trans Z10.out)
    clear hb h11 k11 H10 K10 B10 Z10
    generalize mark w10 own10 0 = own11 at *
    go_wp2_with fail
    refine (HSX.out _).mono ?_
    rintro e w12 ⟨rfl, hb⟩
    obtain ⟨h12, k12⟩ := H11.out.none_step (only_of_below hb)
    have H12 := Lib.hid h12
    have K12 := Lib.hid (K11.out.trans k12)
    have B12 := Lib.hid (k12.blk B11.out Z11.out)
    have Z12 := Lib.hid ((k12.same _ B11.out.lt).trans Z11.out)
    clear hb h12 k12 H11 K11 B11 Z11
    generalize mark w11 own11 0 = own12 at *
    have b0 := B12.out.cell 0
    have b1 := B12.out.cell 1
    have b2 := B12.out.cell 2
    simp only [List.getElem?_toArray, List.getElem?_cons_succ, List.getElem?_cons_zero] at b0 b1 b2
    go_wp2_with fail
    refine (HPU.out _).mono ?_
    rintro e w13 ⟨rfl, hb⟩
    obtain ⟨h13, k13⟩ := H12.out.none_step (only_of_below hb)
    have K13 := Lib.hid (K12.out.trans k13)
    have HN := Lib.hid (pblen_ok h13)
    have HL1 : Hid ((ST 3).b.sums.length = 1) := HLE.out 3
    clear hb h13 k13 H12 K12 B12 Z12 b0 b1 b2
    have hne2 := str_ne2 hso
    generalize sumB X = sx at *
    go_wp2_with fail
    all_goals try (exfalso; apply undef_bool; assumption)
    refine HN.out.mono ?_
    rintro e w14 ⟨rfl, rfl⟩
    rw [HL1.out]
    go_wp2_with fail
    go_ret
    exact ⟨rfl, below_of_keeps K13.out⟩
theorem pagerLays_walk (W : World) (hT : Salts W) (n : Int) (hn : (Lit.int .i64 n).wf = true) (s : ByteArray) (hs : s.size ≤ maxLen) (other : ByteArray) (ho : other.size ≤ maxLen) :
    Calls Tryz.prog 3 #[.int .i64 n, .string s, .string other] W fun e w' => e = .returned (.bool true) ∧ Below W.heap.size W w' := lays_walk n s other W hT

end Go.Proofs.YtimpjlnbbdfehaaGreatDoor
