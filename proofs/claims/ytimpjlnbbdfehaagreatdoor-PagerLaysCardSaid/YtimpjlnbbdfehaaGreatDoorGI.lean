import Derived.Test.YtimpjlnbbdfehaaGreatDoorGH
import Derived.Test.YtimpjlnbbdfehaaGreatDoorGD
import Derived.SliceStrings
import Derived.ChangeSlices
import Derived.Deep.Slices
namespace Go.Proofs.YtimpjlnbbdfehaaGreatDoor
open Go.RowKit Go.Shelf Go.Lib Go.Sort
set_option linter.unusedVariables false
attribute [local go_sem ↓] shr_32_1 shl_32_1 shr_32_2 shl_32_2 shr_32_3 shl_32_3 shr_32_4 shl_32_4 shr_32_5 shl_32_5 shr_32_6 shl_32_6 shr_32_7 shl_32_7 shr_32_8 shl_32_8 shr_32_9 shl_32_9 shr_32_10 shl_32_10 shr_32_11 shl_32_11 shr_32_12 shl_32_12 shr_32_13 shl_32_13 shr_32_14 shl_32_14 shr_32_15 shl_32_15 shr_32_16 shl_32_16 shr_32_17 shl_32_17 shr_32_18 shl_32_18 shr_32_19 shl_32_19 shr_32_20 shl_32_20 shr_32_21 shl_32_21 shr_32_22 shl_32_22 shr_32_23 shl_32_23 shr_32_24 shl_32_24 shr_32_25 shl_32_25 shr_32_26 shl_32_26 shr_32_27 shl_32_27 shr_32_28 shl_32_28 shr_32_29 shl_32_29 shr_32_30 shl_32_30 shr_32_31 shl_32_31 shr_64_3 shl_64_3 shr_64_7 shl_64_7 shr_64_8 shl_64_8 shr_64_16 shl_64_16 shr_64_24 shl_64_24 shr_64_32 shl_64_32 shr_64_40 shl_64_40 shr_64_48 shl_64_48 shr_64_56 shl_64_56
attribute [local go_sem] add_u32 add_u64 and_u8 or_u8 xor_u8 and_u32 or_u32 xor_u32 and_u64 or_u64 xor_u64 conv_32_8 conv_64_8 conv_64_32 conv_8_32 conv_8_64 conv_32_64

theorem guard36 : Tryz.prog.eqGuardType Tryz.prog.depth 36 = false := by kernel_rfl
theorem guard54 : Tryz.prog.eqGuardType Tryz.prog.depth 54 = false := by kernel_rfl
theorem held36 : Tryz.prog.stoodInHeld 36 = false := by kernel_rfl
theorem held54 : Tryz.prog.stoodInHeld 54 = false := by kernel_rfl
theorem fields36 : Tryz.prog.underlying 36 = some (.struct (Tryz.prog.fieldsOf 36)) := by kernel_rfl
theorem fields54 : Tryz.prog.underlying 54 = some (.struct (Tryz.prog.fieldsOf 54)) := by kernel_rfl
theorem info33 : (Tryz.prog.info? 33).map (·.size) = some 1 := by kernel_rfl
theorem info34 : (Tryz.prog.info? 34).map (·.size) = some 1 := by kernel_rfl
def hdEq (a b : Int) (c d : Int) (e f : Int) : Bool := (a == b) && (c == d) && (e == f)
theorem flds36 : (Tryz.prog.fieldsOf 36).toList = [⟨ "Epoch", 33, 0, false, "", "", 0⟩, ⟨ "Counter", 34, 1, false, "", "", 8⟩, ⟨ "Index", 33, 2, false, "", "", 16⟩] := by kernel_rfl
theorem flds54 : (Tryz.prog.fieldsOf 54).toList = [⟨ "Place", 3, 0, false, "", "", 0⟩, ⟨ "Sum", 9, 1, false, "", "", 8⟩] := by kernel_rfl
theorem eqin36 (a b c d e f : Int) (w : World) : (Op.equalIn 10000 36 (.agg #[.int .u32 a, .int .u64 c, .int .u32 e]) (.agg #[.int .u32 b, .int .u64 d, .int .u32 f])).run Tryz.prog w = .ok (hdEq a b c d e f) w := by
  rw [run_equalIn_agg w 9999 36 _ _ fields36 held36, flds36]
  have i1 : (Op.equalIn 9999 33 (.int .u32 a) (.int .u32 b)).run Tryz.prog w = .ok (a == b) w := run_equalIn_int (P := Tryz.prog) w 9998 33 .u32 .u32 a b Tryz.underlying33
  have i2 : (Op.equalIn 9999 34 (.int .u64 c) (.int .u64 d)).run Tryz.prog w = .ok (c == d) w := run_equalIn_int (P := Tryz.prog) w 9998 34 .u64 .u64 c d Tryz.underlying34
  have i3 : (Op.equalIn 9999 33 (.int .u32 e) (.int .u32 f)).run Tryz.prog w = .ok (e == f) w := run_equalIn_int (P := Tryz.prog) w 9998 33 .u32 .u32 e f Tryz.underlying33
  unfold hdEq
  cases h1 : (a == b) <;> cases h2 : (c == d) <;> cases h3 : (e == f) <;> rw [h1] at i1 <;> rw [h2] at i2 <;> rw [h3] at i3 <;>
    simp [Op.eqFields, part, isAgg, run_underlying Tryz.underlying33, run_underlying Tryz.underlying34, i1, i2, i3, Result.andThen]
theorem eql36 (a b c d e f : Int) (w : World) : (binOp .eql 36 (.agg #[.int .u32 a, .int .u64 c, .int .u32 e]) (.agg #[.int .u32 b, .int .u64 d, .int .u32 f])).run Tryz.prog w = .ok (.bool (hdEq a b c d e f)) w := by
  rw [run_eql_struct, eqin36]; rfl
def refEq (a b : Int) (s t : ByteArray) : Bool := (a == b) && (s.toList == t.toList)
theorem eqin54 (a b : Int) (s t : ByteArray) (w : World) : (Op.equalIn 10000 54 (.agg #[.int .i64 a, .string s]) (.agg #[.int .i64 b, .string t])).run Tryz.prog w = .ok (refEq a b s t) w := by
  rw [run_equalIn_agg w 9999 54 _ _ fields54 held54, flds54]
  have i1 : (Op.equalIn 9999 3 (.int .i64 a) (.int .i64 b)).run Tryz.prog w = .ok (a == b) w := run_equalIn_int (P := Tryz.prog) w 9998 3 .i64 .i64 a b Tryz.underlying3
  have i2 : (Op.equalIn 9999 9 (.string s) (.string t)).run Tryz.prog w = .ok (s.toList == t.toList) w := run_equalIn_string (P := Tryz.prog) w 9998 9 s t Tryz.underlying9
  unfold refEq
  cases h1 : (a == b) <;> cases h2 : (s.toList == t.toList) <;> rw [h1] at i1 <;> rw [h2] at i2 <;>
    simp [Op.eqFields, part, isAgg, run_underlying Tryz.underlying3, run_underlying Tryz.underlying9, i1, i2, Result.andThen]
theorem eql54 (a b : Int) (s t : ByteArray) (w : World) : (binOp .eql 54 (.agg #[.int .i64 a, .string s]) (.agg #[.int .i64 b, .string t])).run Tryz.prog w = .ok (.bool (refEq a b s t)) w := by
  rw [run_eql_struct, eqin54]; rfl
theorem hdEq_false {y z : Hd} (h : y ≠ z) : hdEq (n32 y.ep) (n32 z.ep) (n64 y.dev) (n64 z.dev) (n32 y.num) (n32 z.num) = false := by
  unfold hdEq
  rw [Bool.eq_false_iff]
  intro e
  simp at e
  apply h
  cases y with | mk a b c => cases z with | mk a' b' c' =>
  have e1 : a = a' := by unfold n32 at e; exact UInt32.toNat_inj.1 (by have := e.1.1; simp at this; omega)
  have e2 : b = b' := n64_inj e.1.2
  have e3 : c = c' := by unfold n32 at e; exact UInt32.toNat_inj.1 (by have := e.2; simp at this; omega)
  rw [e1, e2, e3]
theorem refEq_iff (x y : Ref) : refEq x.place y.place x.sum y.sum = decide (x = y) := by
  unfold refEq
  by_cases h : x = y
  · subst h; simp
  · rw [decide_eq_false h]
    by_cases h1 : x.place = y.place
    · have h2 : x.sum ≠ y.sum := fun e => h (by cases x; cases y; simp at h1 e; rw [h1, e])
      rw [bool_str_ne h2]; simp
    · simp [h1]

end Go.Proofs.YtimpjlnbbdfehaaGreatDoor
namespace Go.Proofs.YtimpjlnbbdfehaaGreatDoor
open Go.RowKit Go.Shelf Go.Lib Go.Sort
set_option linter.unusedVariables false
attribute [local go_sem ↓] shr_32_1 shl_32_1 shr_32_2 shl_32_2 shr_32_3 shl_32_3 shr_32_4 shl_32_4 shr_32_5 shl_32_5 shr_32_6 shl_32_6 shr_32_7 shl_32_7 shr_32_8 shl_32_8 shr_32_9 shl_32_9 shr_32_10 shl_32_10 shr_32_11 shl_32_11 shr_32_12 shl_32_12 shr_32_13 shl_32_13 shr_32_14 shl_32_14 shr_32_15 shl_32_15 shr_32_16 shl_32_16 shr_32_17 shl_32_17 shr_32_18 shl_32_18 shr_32_19 shl_32_19 shr_32_20 shl_32_20 shr_32_21 shl_32_21 shr_32_22 shl_32_22 shr_32_23 shl_32_23 shr_32_24 shl_32_24 shr_32_25 shl_32_25 shr_32_26 shl_32_26 shr_32_27 shl_32_27 shr_32_28 shl_32_28 shr_32_29 shl_32_29 shr_32_30 shl_32_30 shr_32_31 shl_32_31 shr_64_3 shl_64_3 shr_64_7 shl_64_7 shr_64_8 shl_64_8 shr_64_16 shl_64_16 shr_64_24 shl_64_24 shr_64_32 shl_64_32 shr_64_40 shl_64_40 shr_64_48 shl_64_48 shr_64_56 shl_64_56
attribute [local go_sem] add_u32 add_u64 and_u8 or_u8 xor_u8 and_u32 or_u32 xor_u32 and_u64 or_u64 xor_u64 conv_32_8 conv_64_8 conv_64_32 conv_8_32 conv_8_64 conv_32_64

theorem keeps_made {W w : World} {own : Nat → Nat} (hb : Below W.heap.size W w) (hz : ∀ k, k < W.heap.size → own k = 0) : Keeps W w (fun _ => 0) own :=
  ⟨hb.os, hb.tape, hb.output, hb.size, fun k hk _ => hb.block k hk, fun k hk => hz k hk⟩
theorem below_of_keeps {W w : World} {own : Nat → Nat} (h : Keeps W w (fun _ => 0) own) : Below W.heap.size W w := ⟨h.os, h.tape, h.output, h.size, fun k hk => h.block k hk rfl⟩
def hdc (h : Hd) : List Value := [.int .u32 (n32 h.ep), .int .u64 (n64 h.dev), .int .u32 (n32 h.num)]
def headC (hs : List Hd) : List Value := hs.flatMap hdc
theorem headC_len (hs : List Hd) : (headC hs).length = hs.length * 3 := by
  unfold headC
  induction hs with
  | nil => rfl
  | cons a l ih => rw [List.flatMap_cons, List.length_append, ih, List.length_cons]; simp [hdc]; omega
theorem headC_get (hs : List Hd) (k : Nat) (h : k < hs.length) : (headC hs)[k * 3]? = some (.int .u32 (n32 hs[k].ep)) ∧ (headC hs)[k * 3 + 1]? = some (.int .u64 (n64 hs[k].dev)) ∧ (headC hs)[k * 3 + 2]? = some (.int .u32 (n32 hs[k].num)) := by
  induction hs generalizing k with
  | nil => simp at h
  | cons a l ih =>
    cases k with
    | zero => exact ⟨rfl, rfl, rfl⟩
    | succ k =>
      have h' : k < l.length := by simpa using h
      obtain ⟨i1, i2, i3⟩ := ih k h'
      have e : headC (a :: l) = hdc a ++ headC l := rfl
      have hl : (hdc a).length = 3 := rfl
      refine ⟨?_, ?_, ?_⟩
      · rw [e, List.getElem?_append_right (by omega), hl, show (k + 1) * 3 - 3 = k * 3 by omega]; exact i1
      · rw [e, List.getElem?_append_right (by omega), hl, show (k + 1) * 3 + 1 - 3 = k * 3 + 1 by omega]; exact i2
      · rw [e, List.getElem?_append_right (by omega), hl, show (k + 1) * 3 + 2 - 3 = k * 3 + 2 by omega]; exact i3
theorem i64_mask (n : Int) (k : Nat) (m : Int) (hm : (BitVec.ofInt 64 m).toNat = 2 ^ k - 1) (hk : k ≤ 62) : bits .and .i64 n m = n % (2 ^ k : Nat) := by
  have hp : (2 : Nat) ^ k ≤ 2 ^ 62 := Nat.pow_le_pow_right (by omega) hk
  have hd : (2 : Nat) ^ k ∣ 2 ^ 64 := Nat.pow_dvd_pow 2 (by omega)
  have hq : 0 < 2 ^ k := Nat.two_pow_pos k
  have key : (BitVec.ofInt 64 n &&& BitVec.ofInt 64 m).toNat = (n % ((2 ^ 64 : Nat) : Int)).toNat % 2 ^ k := by
    rw [BitVec.toNat_and, BitVec.toNat_ofInt, hm, Nat.and_two_pow_sub_one_eq_mod]
  show IntKind.i64.wrap ((BitVec.ofInt 64 n &&& BitVec.ofInt 64 m).toNat : Nat) = n % (2 ^ k : Nat)
  rw [key, IntKind.wrap_i64]
  have h0 : 0 ≤ n % ((2 ^ 64 : Nat) : Int) := Int.emod_nonneg _ (by decide)
  have e : (((n % ((2 ^ 64 : Nat) : Int)).toNat % 2 ^ k : Nat) : Int) = n % ((2 ^ k : Nat) : Int) := by
    rw [Int.natCast_emod, Int.toNat_of_nonneg h0]
    exact Int.emod_emod_of_dvd n (Int.natCast_dvd_natCast.2 hd)
  rw [e]
  have h1 : 0 ≤ n % ((2 ^ k : Nat) : Int) := Int.emod_nonneg _ (by omega)
  have h2 : n % ((2 ^ k : Nat) : Int) < ((2 ^ k : Nat) : Int) := Int.emod_lt_of_pos _ (by omega)
  have h3 : ((2 ^ k : Nat) : Int) ≤ ((2 ^ 62 : Nat) : Int) := by omega
  have h4 : ((2 ^ 62 : Nat) : Int) = 4611686018427387904 := by decide
  omega
theorem and7 (n : Int) : bits .and .i64 n 7 = n % 8 := i64_mask n 3 7 (by decide) (by omega)
theorem and3 (n : Int) : bits .and .i64 n 3 = n % 4 := i64_mask n 2 3 (by decide) (by omega)
theorem Mid.keeps {w w' : World} {own own' : Nat → Nat} {B : Nat} {e : TypeId} {size : Nat} {v : Value} {n : Nat} {xs : List Value} (h : Mid w B e size v n xs) (hk : Keeps w w' own own') (hv : ∀ g, v.ownBlock = some g → own g = 0) : Mid w' B e size v n xs :=
  h.kept fun g hg => by
    obtain ⟨_, cur, hc⟩ := h.block g hg
    exact hk.block g hc.lt (hv g hg)
theorem Mid.z {w w' : World} {own own' : Nat → Nat} {B : Nat} {e : TypeId} {size : Nat} {v : Value} {n : Nat} {xs : List Value} (h : Mid w B e size v n xs) (hk : Keeps w w' own own') (hv : ∀ g, v.ownBlock = some g → own g = 0) : ∀ g, v.ownBlock = some g → own' g = 0 := fun g hg => by
  obtain ⟨_, cur, hc⟩ := h.block g hg
  exact (hk.same g hc.lt).trans (hv g hg)
theorem empty_mid (w : World) (e : TypeId) (size : Nat) {B : Nat} (hB : B ≤ w.heap.size) : Mid (w.alloc (.cells #[] e)) B e size (.slice (some ⟨w.heap.size, 0, none⟩) 0 0) 0 [] :=
  ⟨by simp, .inr ⟨w.heap.size, 0, 0, #[], rfl, hB, Blk.new w e #[], Nat.le_refl _, by simp [maxLen], by simp, by simp⟩⟩
/-- The relation of the rounds. -/
structure HR (W wr : World) (i : Ids) (k : Nat) (st : PS) (own : Nat → Nat) (hs : List Hd) (v : Value) : Prop where
  sys : SysC wr i st own
  kp : Keeps W wr (fun _ => 0) own
  ok : st.okN k
  len : st.d.sure.length = 4
  hi : HeadsI st hs k
  mid : Mid wr W.heap.size 36 3 v hs.length (headC hs)
  z : ∀ g, v.ownBlock = some g → own g = 0
  hl : hs.length ≤ k
theorem HR.call {W w1 w2 : World} {i : Ids} {k : Nat} {st st2 : PS} {own own2 : Nat → Nat} {hs : List Hd} {v : Value} (h : HR W w1 i k st own hs v) (h2 : SysC w2 i st2 own2) (kp : Keeps w1 w2 own own2) (ok : st2.okN (k + 1)) (hl : st2.d.sure.length = 4) (hi : HeadsI st2 hs (k + 1)) : HR W w2 i (k + 1) st2 own2 hs v :=
  ⟨h2, h.kp.trans kp, ok, hl, hi, h.mid.keeps kp h.z, h.mid.z kp h.z, Nat.le_trans h.hl (Nat.le_succ _)⟩
theorem word_of {x : Int} (h0 : 0 ≤ x) (h1 : x < 4294967296) : ∃ e : UInt32, x = n32 e := by
  refine ⟨UInt32.ofNat x.toNat, ?_⟩
  unfold n32
  rw [UInt32.toNat_ofNat_of_lt' (by show x.toNat < 4294967296; omega)]
  omega
theorem info36f : (Tryz.prog.info? 36).map (fun i => (i.zero, i.size, i.bytes)) = some (some (.agg #[.int .u32 0, .int .u64 0, .int .u32 0]), 3, 24) := by kernel_rfl
theorem row_three (w : World) (t : TypeId) (a b c : Value) : Row (w.alloc (.cells #[a, b, c] t)) (some ⟨w.heap.size, 0, none⟩) [a, b, c] := row_cells w [a, b, c] t
theorem headC_app (hs : List Hd) (h : Hd) : headC (hs ++ [h]) = headC hs ++ hdc h := by simp [headC]
/-- One more head is noted. -/
theorem HR.note {W w5 w8 : World} {i : Ids} {k n : Nat} {st2 : PS} {own5 : Nat → Nat} {hs : List Hd} {v7 v8 : Value} {h : Hd} {o : Obj} (hW : 0 < W.heap.size) (S5 : SysC w5 i st2 own5) (K5 : Keeps W w5 (fun _ => 0) own5) (ok : st2.okN (k + 1)) (len : st2.d.sure.length = 4) (hi : HeadsI st2 (hs ++ [h]) (k + 1))
    (M5 : Mid w5 W.heap.size 36 3 v7 hs.length (headC hs)) (MZ : ∀ g, v7.ownBlock = some g → own5 g = 0) (hl : hs.length ≤ k)
    (hm : Mid w8 W.heap.size 36 3 v8 (hs.length + 1) (headC hs ++ hdc h)) (hg : ((w5.drewN n).alloc o).grownBy w8 v7.ownBlock) (ho : v8.ownBlock = v7.ownBlock ∨ v8.ownBlock = some ((w5.drewN n).alloc o).heap.size) :
    ∃ own8, HR W w8 i (k + 1) st2 own8 (hs ++ [h]) v8 := by
  have hO : Only w5 w8 v7.ownBlock.toList := (((Only.refl w5 _).drewN n).alloc o).trans (Only.of_grown hg (fun g e => by simp [e]))
  obtain ⟨h8, k8⟩ := S5.off K5 hO (fun x hx => by
    have hx' : v7.ownBlock = some x := by simpa using hx
    obtain ⟨hB, _⟩ := M5.block x hx'
    exact ⟨MZ x hx', by omega, hB⟩)
  refine ⟨_, h8, k8, ok, len, hi, ?_, ?_, ?_⟩
  · rw [headC_app]; simpa using hm
  · intro g hg8
    rcases ho with e | e
    · rw [e] at hg8
      obtain ⟨_, cur, hc⟩ := M5.block g hg8
      rw [mark_old hc.lt]; exact MZ g hg8
    · rw [hg8] at e
      injection e with e
      exact mark_new (by rw [e]; simp)
  · rw [List.length_append]; simp; omega
def xB : ByteArray := ⟨#[120]⟩
theorem x33_size : (⟨#[48, 49, 50, 51, 52, 53, 54, 55, 56, 57, 97, 98, 99, 100, 101, 102, 48, 49, 50, 51, 52, 53, 54, 55, 56, 57, 97, 98, 99, 100, 101, 102, 120]⟩ : ByteArray).size = 33 := rfl
set_option maxHeartbeats 8000000 in
set_option maxRecDepth 100000 in
theorem heads_walk (A : Option Addr) (cap : Nat) (zs : List Int) (hzl : zs.length ≤ 9223372036854775807) (W : World) (hrow : Row W A (ints zs)) (hT : Salts W) :
    Calls Tryz.prog 4 #[.slice A zs.length cap] W fun e w' => e = .returned (.bool true) ∧ Below W.heap.size W w' := by
  have HM : Hid (Calls Tryz.prog 16 #[.int .i64 4, .int .i64 1] W (Made 4 1 W)) := made_ok 4 1 (by omega) (by omega) W hT
  have HT := Lib.hid hT
  have HRW := Lib.hid hrow
  have HZL := Lib.hid hzl
  clear hT hrow hzl
  go_enter Tryz.func4, Tryz.ntmps4
  go_wp2_with fail
  refine HM.out.mono ?_
  rintro e w1 ⟨i, own1, rfl, h1, hb1, hz1⟩
  have H1 := Lib.hid h1
  have K1 := Lib.hid (keeps_made hb1 hz1)
  clear h1 hb1 hz1 HM
  have H0 : Hid (∃ st own hs, st.epoch = 0 ∧ HR W (w1.alloc (.cells #[] 36)) i 0 st own hs (.slice (some ⟨w1.heap.size, 0, none⟩) 0 0)) := by
    obtain ⟨h2, k2⟩ := H1.out.box0 (.cells #[] 36)
    refine ⟨_, _, [], rfl, h2, K1.out.trans k2, PS.new_okN 4 1 (by omega), by simp [PS.new, DS.new], ⟨(fun x hx => by cases hx), by show (0 : UInt64).toNat ≤ 0; decide, by show (0 : UInt32).toNat ≤ 0; decide⟩, (empty_mid w1 36 3 K1.out.size), fun g hg => ?_, Nat.le_refl _⟩
    simp [Value.ownBlock] at hg
    subst hg
    exact mark_new (Nat.le_refl _)
  clear H1 K1
  go_wp2_with fail
  generalize w1.alloc (.cells #[] 36) = w2 at *
  generalize (Value.slice (some ⟨w1.heap.size, 0, none⟩) 0 0) = v0 at *
  go_loopg [7, 8, 9] (min zs.length 40 : Nat) (fun q v7 v8 v9 wr => ∃ (k : Nat) (st : PS) (own : Nat → Nat) (hs : List Hd), q + k = min zs.length 40 ∧ v9 = .int .i64 (k : Int) ∧ v8 = .int .u32 (n32 st.epoch) ∧ HR W wr i k st own hs v7)
  case atStart =>
    obtain ⟨st, own, hs, he, h⟩ := H0.out
    exact ⟨0, st, own, hs, by omega, rfl, by rw [he]; rfl, h⟩
  case round =>
    obtain ⟨k, st, own, hs, hq, rfl, rfl, hr⟩ := hrel
    have R := Lib.hid hr
    clear hr H0
    by_cases hlt : k < min zs.length 40
    · have hk1 : k < zs.length := by omega
      have hk2 : k < 40 := by omega
      obtain ⟨ad, rfl, hcs⟩ := HRW.out (by rw [ints_len]; omega)
      have hcell : wr.cell? (ad.add k) = some (.int .i64 (zs.getD k 0)) := by
        have hrow2 := (HRW.out).belowAll (below_of_keeps R.out.kp)
        obtain ⟨ad', e', hc⟩ := hrow2 (by rw [ints_len]; omega)
        injection e' with e'
        subst e'
        exact hc k _ (by simp [ints, hk1])
      obtain ⟨x, hx⟩ : ∃ x, x = zs.getD k 0 := ⟨_, rfl⟩
      rw [← hx] at hcell
      clear hcs hx
      have ha3 := and3 x
      have ha7 := and7
      by_cases hm0 : x % 4 = 0
      · have t0 : (x % 4 == 0) = true := by simp [hm0]
        obtain ⟨e8, he8⟩ := word_of (x := x / 4 % 8) (by omega) (by omega)
        have HE := Lib.hid (epoch_ok R.out.sys e8)
        go_wp2_with fail
        refine HE.out.mono ?_
        rintro e w3 ⟨rfl, own3, h3, k3⟩
        have R3 := Lib.hid (R.out.call h3 k3 (PS.epoch_okN R.out.ok e8) R.out.len (heads_epoch R.out.hi e8))
        clear h3 k3 HE
        go_wp2_with fail
        go_roundg (gk - 1)
        case measure => omega
        case rel => exact ⟨k + 1, _, own3, hs, by omega, by go_num, by rfl, R3.out⟩
      · by_cases hm1 : x % 4 = 1
        · have t0 : (x % 4 == 0) = false := by simp [hm0]
          have t1 : (x % 4 == 1) = true := by simp [hm1]
          have HBM := Lib.hid (pbump_ok R.out.sys (by have := R.out.ok.acts; omega) _ x33_size)
          go_wp2_with fail
          refine HBM.out.mono ?_
          rintro e w3 ⟨rfl, own3, h3, k3⟩
          have R3 := Lib.hid (R.out.call h3 k3 (PS.bump_okN R.out.ok _) R.out.len (heads_bump R.out.hi (by omega) _))
          clear h3 k3 HBM
          go_wp2_with fail
          go_roundg (gk - 1)
          case measure => omega
          case rel => exact ⟨k + 1, _, own3, hs, by omega, by go_num, by rfl, R3.out⟩
        · have t0 : (x % 4 == 0) = false := by simp [hm0]
          have t1 : (x % 4 == 1) = false := by simp [hm1]
          have hkd : 1 < st.d.sure.length := by have := R.out.len; omega
          have HL : Hid (Calls Tryz.prog 17 #[.pointer (some ⟨i.p, 0, none⟩), .int .i64 1, .string xB] wr (PT i wr own (st.lay 1 xB) (.tuple #[.string (sumB (st.block 1 xB)), .string (st.block 1 xB), .int .i64 0]))) := lay_ok R.out.sys (R.out.ok.ok (by omega)) 1 hkd xB (by decide)
          have HH := Lib.hid (fun w4 own4 (h4 : SysC w4 i (st.lay 1 xB) own4) => phd_ok h4 (st.block 1 xB))
          have e1 : headF (st.block 1 xB) = (st.hd, 0) := by
            unfold headF
            have hbs : (st.block 1 xB).size = 512 := blockP_size st.v.key st.hd 1 xB (by decide)
            have hbh : hdOf (st.block 1 xB) = st.hd := hd_block st.v.key st.hd 1 xB (by decide)
            rw [if_pos hbs, hbh]
          rw [e1] at HH
          have HG : Hid (∀ w5 own5, SysC w5 i (st.lay 1 xB) own5 → Calls Tryz.prog 18 #[.pointer (some ⟨i.d, 0, none⟩), .int .i64 1] w5 fun e w' => e = .returned (.tuple #[.string (st.block 1 xB), .int .i64 0]) ∧ w5 = w') := fun w5 own5 h5 => by
            have := pdread_ok h5 R.out.ok.dl 1 hkd
            have e2 : (st.lay 1 xB).d.get 1 = st.block 1 xB := DS.get_write st.d 1 _
            rw [e2] at this
            exact this
          have HN := Lib.hid (heads_new R.out.hi (by omega))
          have HI := Lib.hid (heads_lay R.out.hi (by omega) 1 xB)
          have HOK := Lib.hid (PS.lay_okN R.out.ok 1 xB (by decide))
          have EP : Hid (st.hd.ep = st.epoch) := rfl
          have ED : Hid (st.hd.dev = (st.lay 1 xB).v.ctr) := rfl
          have EL : Hid ((st.lay 1 xB).d.sure.length = 4) := R.out.len
          have EE : Hid ((st.lay 1 xB).epoch = st.epoch) := rfl
          clear e1 hkd
          generalize st.lay 1 xB = st2 at *
          generalize st.block 1 xB = raw at *
          generalize sumB raw = sm at *
          have hhd : ∃ a b c, st.hd = ⟨a, b, c⟩ := ⟨_, _, _, rfl⟩
          generalize st.hd = hd at *
          obtain ⟨ha, hb, hc⟩ := hd
          clear hhd
          dsimp only at EP ED
          obtain rfl : ha = st.epoch := EP.out
          obtain rfl : hb = st2.v.ctr := ED.out
          unfold Hd.v Hd.cells at HH
          dsimp only at HH
          unfold xB at HL
          go_wp2_with fail
          refine HL.out.mono ?_
          rintro e w3 ⟨rfl, own3, h3, k3⟩
          have S3 := Lib.hid h3
          have K3 := Lib.hid k3
          clear h3 k3 HL
          go_wp2_with fail
          refine (HH.out _ _ S3.out).mono ?_
          rintro e w4 ⟨rfl, own4, h4, k4⟩
          have HA4 : Hid (Blk (w4.alloc (.cells #[.int .u32 0, .int .u64 0, .int .u32 0] 36)) w4.heap.size 36 #[.int .u32 0, .int .u64 0, .int .u32 0]) := Blk.new w4 36 _
          obtain ⟨own5, h5, k5, b5, z5⟩ := one_box h4 36 #[.int .u32 0, .int .u64 0, .int .u32 0] #[.int .u32 (n32 st.epoch), .int .u64 (n64 st2.v.ctr), .int .u32 (n32 hc)]
          have S5 := Lib.hid h5
          have K5 := Lib.hid (K3.out.trans (k4.trans k5))
          have B5 := Lib.hid b5
          have Z5 := Lib.hid z5
          have HG5 := Lib.hid (HG.out _ _ h5)
          have HC5 := Lib.hid (fun n => (pcounter_ok (h5.drew (Keeps.refl _ _) n).choose_spec.1))
          clear h4 k4 h5 k5 b5 z5 HH S3 K3 HG
          go_wp2_with (first
            | (refine wpList_store_row rfl 36 (.tmp 13) (.tmp 49) (by rfl) w4.heap.size #[.int .u32 (n32 st.epoch), .int .u64 (n64 st2.v.ctr), .int .u32 (n32 hc)] (by rfl) (by rfl) 36 _ HA4.out info36 (by rfl) (by simp [Value.oneCell']) ?_; generalize (w4.alloc (.cells #[.int .u32 0, .int .u64 0, .int .u32 0] 36)).setRow w4.heap.size #[.int .u32 (n32 st.epoch), .int .u64 (n64 st2.v.ctr), .int .u32 (n32 hc)] = w5 at *)
            | ((with_reducible refine HG5.out.mono ?_); rintro e w' ⟨rfl, rfl⟩)
            | fail)
          have b0 := B5.out.cell 0
          have b1 := B5.out.cell 1
          go_quiet ((go_at_call 27; exact Calls.quiet_of_same ((HC5.out _).mono fun _ _ h => ⟨h.1, h.2.symm⟩)))
          go_wp2_with fail
          have M5 := Lib.hid (R.out.mid.keeps K5.out R.out.z)
          have MZ := Lib.hid (R.out.mid.z K5.out R.out.z)
          obtain ⟨A7, c7, rfl, _, _, _⟩ := R.out.mid.form
          clear b0 b1 HG5 HC5 HA4
          obtain ⟨gq, rfl⟩ : ∃ gq : Nat, gq = gk := ⟨_, rfl⟩
          obtain ⟨wo, rfl⟩ : ∃ wo : World, wo = wr := ⟨_, rfl⟩
          go_loopg [17] (hs.length : Nat) (fun q v17 wy => ∃ (k2 n : Nat), q + k2 = hs.length ∧ v17 = .int .i64 (k2 : Int) ∧ wy = w5.drewN n)
          case atStart => exact ⟨0, nq, by omega, rfl, rfl⟩
          case round =>
            obtain ⟨k2, n, hq2, rfl, rfl⟩ := hrel
            by_cases hlt2 : k2 < hs.length
            · obtain ⟨g7, o7, c7', hv7, hcs7⟩ := M5.out.open_ (by omega)
              injection hv7 with hA7 hn7 hc7
              clear hn7 hc7
              subst hA7
              obtain ⟨g1, g2, g3⟩ := headC_get hs k2 hlt2
              have q1 := hcs7 _ _ g1
              have q2 := hcs7 _ _ g2
              have q3 := hcs7 _ _ g3
              rw [← Nat.add_assoc] at q2 q3
              have hne := hdEq_false (HN.out hs[k2] (List.getElem_mem hlt2))
              dsimp only at hne
              generalize hs[k2] = y at *
              have he1 := fun w => eqin36 (n32 y.ep) (n32 st.epoch) (n64 y.dev) (n64 st2.v.ctr) (n32 y.num) (n32 hc) w
              rw [hne] at he1
              have hgu := guard36
              have b0 := B5.out.cell 0
              have b1 := B5.out.cell 1
              have b2 := B5.out.cell 2
              have hlen : hs.length ≤ 40 := by have := R.out.hl; omega
              clear hcs7 g1 g2 g3
              go_wp2_with fail
              go_quiet (fail)
              go_wp2_with fail
              go_roundg (gk - 1)
              case measure => omega
              case rel => exact ⟨k2 + 1, _, by omega, by go_num, rfl⟩
            · obtain rfl : k2 = hs.length := by omega
              have hlen : hs.length ≤ 40 := by have := R.out.hl; omega
              have b0 := B5.out.cell 0
              have b1 := B5.out.cell 1
              have b2 := B5.out.cell 2
              obtain ⟨i36, hi36, hy0, hy1, hy2⟩ := info_parts info36f
              have HW0 : Hid (W.heap.size ≤ w5.heap.size) := Nat.le_trans R.out.kp.size K5.out.size
              have KW := Lib.hid (R.out.kp.trans K5.out)
              have HHL : Hid (hs.length ≤ k) := R.out.hl
              go_wp2_with (at_builtin; refine wpList_append_mid _ rfl (.tmp 92) (.tmp 94) 45 rfl W.heap.size 36 i36 (.agg #[.int .u32 0, .int .u64 0, .int .u32 0]) 3 24 Tryz.underlying45 hi36 hy0 hy1 hy2 rfl (by decide) _ _ _ rfl ((M5.out.drewN n).alloc _) (some ⟨w5.heap.size, 0, none⟩) 1 1 [.int .u32 (n32 st.epoch), .int .u64 (n64 st2.v.ctr), .int .u32 (n32 hc)] rfl rfl (row_three _ _ _ _ _) (by simp [Value.oneCell']) (by simp only [maxLen]; omega) (by omega) (by have := HW0.out; simp; omega) ?_; intro v8 w8 hm8 hg8 ho8; obtain ⟨own8, hr8⟩ := HR.note (h := ⟨st.epoch, st2.v.ctr, hc⟩) HT.out.1 S5.out KW.out HOK.out EL.out HI.out M5.out MZ.out HHL.out hm8 hg8 ho8; have R8 := Lib.hid hr8; clear hm8 hg8 ho8 hr8)
              go_roundg (gq - 1)
              case measure => omega
              case rel => exact ⟨k + 1, st2, own8, hs ++ [⟨st.epoch, st2.v.ctr, hc⟩], by omega, by go_num, by rw [EE.out], R8.out⟩
    · go_wp2_with fail
      all_goals
        refine (aw_ok _ R.out.sys.salts).mono ?_
        rintro e w9 ⟨rfl, hb⟩
        go_wp2_with fail
        go_ret
        exact ⟨rfl, (below_of_keeps R.out.kp).trans (hb.mono R.out.kp.size)⟩


end Go.Proofs.YtimpjlnbbdfehaaGreatDoor
namespace Go.Proofs.YtimpjlnbbdfehaaGreatDoor
open Go.RowKit Go.Shelf Go.Lib Go.Sort
set_option linter.unusedVariables false
attribute [local go_sem ↓] shr_32_1 shl_32_1 shr_32_2 shl_32_2 shr_32_3 shl_32_3 shr_32_4 shl_32_4 shr_32_5 shl_32_5 shr_32_6 shl_32_6 shr_32_7 shl_32_7 shr_32_8 shl_32_8 shr_32_9 shl_32_9 shr_32_10 shl_32_10 shr_32_11 shl_32_11 shr_32_12 shl_32_12 shr_32_13 shl_32_13 shr_32_14 shl_32_14 shr_32_15 shl_32_15 shr_32_16 shl_32_16 shr_32_17 shl_32_17 shr_32_18 shl_32_18 shr_32_19 shl_32_19 shr_32_20 shl_32_20 shr_32_21 shl_32_21 shr_32_22 shl_32_22 shr_32_23 shl_32_23 shr_32_24 shl_32_24 shr_32_25 shl_32_25 shr_32_26 shl_32_26 shr_32_27 shl_32_27 shr_32_28 shl_32_28 shr_32_29 shl_32_29 shr_32_30 shl_32_30 shr_32_31 shl_32_31 shr_64_3 shl_64_3 shr_64_7 shl_64_7 shr_64_8 shl_64_8 shr_64_16 shl_64_16 shr_64_24 shl_64_24 shr_64_32 shl_64_32 shr_64_40 shl_64_40 shr_64_48 shl_64_48 shr_64_56 shl_64_56
attribute [local go_sem] add_u32 add_u64 and_u8 or_u8 xor_u8 and_u32 or_u32 xor_u32 and_u64 or_u64 xor_u64 conv_32_8 conv_64_8 conv_64_32 conv_8_32 conv_8_64 conv_32_64


/-- A value that is a slice of ints. -/
def IntsV (W : World) (v : Value) : Prop := ∃ A cap zs, v = .slice A zs.length cap ∧ zs.length ≤ 9223372036854775807 ∧ Row W A (ints zs)
theorem row_of_ints {w : World} {a : Addr} {zs : List Int} {n : Nat} (hz : n ≤ zs.length) (hc : ∀ i, i < zs.length → w.cell? (a.add i) = some (.int .i64 (zs.getD i 0))) :
    Row w (some a) (ints (zs.take n)) := fun _ => ⟨a, rfl, fun j u hj => by
  have hjl : j < n ∧ j < zs.length := by
    have := (List.getElem?_eq_some_iff.1 hj).1
    simp [ints] at this
    omega
  have e : (ints (zs.take n))[j]? = some (.int .i64 (zs.getD j 0)) := by simp [ints, hjl.1, List.getElem?_eq_getElem hjl.2, hjl.2]
  rw [e] at hj
  injection hj with hj
  rw [← hj]
  exact hc j hjl.2⟩
open Go.WideShapes Go.Deep in
set_option maxRecDepth 100000 in
theorem open_intsV {H : Type} {enc : TypeId × Value → H} {w : World} {r : Reach} {b0 : Nat} {v : Value} {d : DataW H} {p : List MemPlace}
    (hv : Value.okWide Tryz.prog w r b0 44 v) (h : DataW.Trod enc Tryz.prog w 0 (fun _ => true) true 44 v d p) : IntsV w v := by
  obtain ⟨A, n, c, rfl⟩ := okWide_slice Tryz.underlying44 hv
  obtain ⟨fuel, hf⟩ := h
  rcases Go.ChangeShapes.open_ints Tryz.underlying44 Tryz.underlying3 (by kernel_rfl) hf with ⟨hcs, _⟩ | ⟨x, l, c', zs, hcs, _, hl, hm, hz, _, hcell, hwz⟩
  · simp [Value.cells] at hcs
    obtain ⟨rfl, rfl, rfl⟩ := hcs
    exact ⟨none, 0, [], rfl, by simp, Row.nil _ _⟩
  · simp [Value.cells] at hcs
    obtain ⟨rfl, rfl, rfl⟩ := hcs
    have hzl : n ≤ zs.length := by rw [hz]; split <;> omega
    have e : (zs.take n).length = n := by simp; omega
    exact ⟨some x, c, zs.take n, by rw [e], by rw [e]; unfold maxLen at hm; omega, row_of_ints hzl hcell⟩
theorem pagerHeads_walk (W : World) (hT : Salts W) (v : Value) (o : IntsV W v) : Calls Tryz.prog 4 #[v] W fun e w' => e = .returned (.bool true) ∧ Below W.heap.size W w' := by
  obtain ⟨A, cap, zs, rfl, hl, hr⟩ := o
  exact heads_walk A cap zs hl W hr hT

end Go.Proofs.YtimpjlnbbdfehaaGreatDoor
