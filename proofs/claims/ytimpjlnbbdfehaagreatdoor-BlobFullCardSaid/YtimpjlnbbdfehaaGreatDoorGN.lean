import Derived.Test.YtimpjlnbbdfehaaGreatDoorGI
import Derived.Test.YtimpjlnbbdfehaaGreatDoorGK
namespace Go.Proofs.YtimpjlnbbdfehaaGreatDoor
open Go.RowKit Go.Shelf Go.Lib Go.Sort
set_option linter.unusedVariables false
attribute [local go_sem ↓] shr_32_1 shl_32_1 shr_32_2 shl_32_2 shr_32_3 shl_32_3 shr_32_4 shl_32_4 shr_32_5 shl_32_5 shr_32_6 shl_32_6 shr_32_7 shl_32_7 shr_32_8 shl_32_8 shr_32_9 shl_32_9 shr_32_10 shl_32_10 shr_32_11 shl_32_11 shr_32_12 shl_32_12 shr_32_13 shl_32_13 shr_32_14 shl_32_14 shr_32_15 shl_32_15 shr_32_16 shl_32_16 shr_32_17 shl_32_17 shr_32_18 shl_32_18 shr_32_19 shl_32_19 shr_32_20 shl_32_20 shr_32_21 shl_32_21 shr_32_22 shl_32_22 shr_32_23 shl_32_23 shr_32_24 shl_32_24 shr_32_25 shl_32_25 shr_32_26 shl_32_26 shr_32_27 shl_32_27 shr_32_28 shl_32_28 shr_32_29 shl_32_29 shr_32_30 shl_32_30 shr_32_31 shl_32_31 shr_64_3 shl_64_3 shr_64_7 shl_64_7 shr_64_8 shl_64_8 shr_64_16 shl_64_16 shr_64_24 shl_64_24 shr_64_32 shl_64_32 shr_64_40 shl_64_40 shr_64_48 shl_64_48 shr_64_56 shl_64_56
attribute [local go_sem] add_u32 add_u64 and_u8 or_u8 xor_u8 and_u32 or_u32 xor_u32 and_u64 or_u64 xor_u64 conv_32_8 conv_64_8 conv_64_32 conv_8_32 conv_8_64 conv_32_64

/-! ### Numbers and texts as bytes -/
theorem or_u8_128 (a : UInt8) : bits .or .u8 (n8 a) 128 = n8 (a ||| 128) := or_u8 a 128
theorem and_u8_127 (a : UInt8) : bits .and .u8 (n8 a) 127 = n8 (a &&& 127) := and_u8 a 127
theorem and_u8_128 (a : UInt8) : bits .and .u8 (n8 a) 128 = n8 (a &&& 128) := and_u8 a 128
def numL : Nat → UInt64 → List UInt8
  | 0, x => [lo8 x]
  | k + 1, x => if 127 < x.toNat then (lo8 x ||| 128) :: numL k (x >>> 7) else [lo8 x]
def numB (x : UInt64) : ByteArray := ⟨(numL 10 x).toArray⟩
theorem numL_stop (k : Nat) (x : UInt64) (h : x.toNat ≤ 127) : numL k x = [lo8 x] := by
  cases k with
  | zero => rfl
  | succ k => show (if 127 < x.toNat then _ else _) = _; rw [if_neg (by omega)]
theorem shr7 (x : UInt64) : (x >>> 7).toNat = x.toNat / 128 := by
  rw [UInt64.toNat_shiftRight, Nat.shiftRight_eq_div_pow]
  rfl
theorem numL_len (k : Nat) (x : UInt64) : (numL k x).length ≤ k + 1 := by
  induction k generalizing x with
  | zero => exact Nat.le_refl _
  | succ k ih =>
    show (if 127 < x.toNat then _ else _ : List UInt8).length ≤ _
    split
    · have := ih (x >>> 7)
      simp only [List.length_cons]
      omega
    · simp
theorem numB_small (x : UInt64) (h : x.toNat < 16384) : (numB x).size ≤ 2 := by
  show (numL 10 x).length ≤ 2
  show (if 127 < x.toNat then (lo8 x ||| 128) :: numL 9 (x >>> 7) else [lo8 x]).length ≤ 2
  split
  · rw [numL_stop 9 _ (by rw [shr7]; omega)]
    exact Nat.le_refl _
  · exact Nat.le_succ _
theorem numB_size (x : UInt64) : (numB x).size ≤ 11 := numL_len 10 x
theorem row_onev (w : World) (x : UInt8) : ∀ j u, (bv [x])[j]? = some u → (w.alloc (.cells #[.int .u8 (n8 x)] 5)).cell? ((⟨w.heap.size, 0, none⟩ : Addr).add j) = some u := by
  obtain ⟨ad, e, h⟩ := row_cells w [.int .u8 (n8 x)] 5 (by simp)
  injection e with e
  subst e
  exact h
attribute [local go_sem] or_u8_128 and_u8_127 and_u8_128
set_option maxHeartbeats 2000000 in
set_option maxRecDepth 100000 in
theorem num_ok (x0 : UInt64) (w : World) (hw : 0 < w.heap.size) : Calls Tryz.prog 126 #[.int .u64 (n64 x0)] w fun e w' => e = .returned (.string (numB x0)) ∧ Below w.heap.size w w' := by
  have HN0 : Hid (numB x0 = ⟨([] ++ numL 10 x0).toArray⟩) := rfl
  have HW := Lib.hid hw
  clear hw
  go_enter Tryz.func126, Tryz.ntmps126
  go_wp2_with fail
  go_loopg [0, 3] 10 (fun q v0 v3 wr => ∃ (x : UInt64) (out : List UInt8), v0 = .int .u64 (n64 x) ∧ numB x0 = ⟨(out ++ numL q x).toArray⟩ ∧ x.toNat < 128 ^ (q + 1) ∧ out.length + q = 10 ∧ OwnB wr w.heap.size v3 out ∧ Below w.heap.size w wr)
  case atStart =>
    refine ⟨x0, [], rfl, HN0.out, ?_, rfl, .inl ⟨rfl, rfl⟩, Below.refl _ _⟩
    have := x0.toNat_lt
    show x0.toNat < 128 ^ 11
    omega
  case round =>
    obtain ⟨x, out, rfl, hB, hx, hl, hob, hb⟩ := hrel
    have RB := Lib.hid hB
    have RX := Lib.hid hx
    have RO := Lib.hid hob
    have RW := Lib.hid hb
    have HBS : Hid (w.heap.size ≤ wr.heap.size) := hb.size
    clear hB hx hob hb
    by_cases h127 : 127 < x.toNat
    · have hd : decide ((127 : Int) < n64 x) = true := by unfold n64; simp; omega
      have hq0 : gk ≠ 0 := by
        rintro rfl
        have := RX.out
        omega
      obtain ⟨q, rfl⟩ : ∃ q, gk = q + 1 := ⟨gk - 1, by omega⟩
      have HR1 := Lib.hid (row_onev wr (lo8 x ||| 128))
      have HST : Hid (numL (q + 1) x = (lo8 x ||| 128) :: numL q (x >>> 7)) := if_pos h127
      go_wp2_with (at_builtin; refine wpList_append_ob rfl (.tmp 6) (.tmp 10) (by rfl) w.heap.size _ out (by rfl) (RO.out.below ((Below.refl _ _).alloc (Nat.le_refl _) _) (Nat.le_refl _)) ⟨wr.heap.size, 0, none⟩ 1 1 [lo8 x ||| 128] (by rfl) rfl (by simp) HR1.out (by simp; omega) (by have := HBS.out; simp; omega) ?_; intro v2 w2 ho2 hb2; have HO2 := Lib.hid ho2; have HB2 := Lib.hid hb2; clear ho2 hb2)
      go_roundg q
      case measure => omega
      case rel =>
        refine ⟨x >>> 7, out ++ [lo8 x ||| 128], rfl, ?_, ?_, by simp; omega, HO2.out, (RW.out.alloc HBS.out _).trans HB2.out⟩
        · rw [RB.out, HST.out]
          simp
        · have := RX.out
          rw [shr7]
          rw [Nat.pow_succ] at this
          exact Nat.div_lt_of_lt_mul (by rw [Nat.mul_comm]; exact this)
    · have hd : decide ((127 : Int) < n64 x) = false := by unfold n64; simp; omega
      have HR1 := Lib.hid (row_onev wr (lo8 x))
      have HST := Lib.hid (numL_stop gk x (by omega))
      go_wp2_with (at_builtin; refine wpList_append_ob rfl (.tmp 14) (.tmp 17) (by rfl) w.heap.size _ out (by rfl) (RO.out.below ((Below.refl _ _).alloc (Nat.le_refl _) _) (Nat.le_refl _)) ⟨wr.heap.size, 0, none⟩ 1 1 [lo8 x] (by rfl) rfl (by simp) HR1.out (by simp; omega) (by have := HBS.out; simp; omega) ?_; intro v2 w2 ho2 hb2; have hcv := conv_ob ho2; have HB2 := Lib.hid hb2; clear ho2 hb2)
      go_ret
      exact ⟨by rw [RB.out, HST.out]; rfl, (RW.out.alloc HBS.out _).trans HB2.out⟩
def textS (s : ByteArray) : ByteArray := numB (UInt64.ofNat s.size) ++ s
set_option maxHeartbeats 1000000 in
set_option maxRecDepth 100000 in
theorem ctext_ok (s : ByteArray) (hs : s.size ≤ 1000000) (w : World) (hw : 0 < w.heap.size) : Calls Tryz.prog 127 #[.string s] w fun e w' => e = .returned (.string (textS s)) ∧ Below w.heap.size w w' := by
  have hc : IntKind.u64.wrap (s.size : Int) = n64 (UInt64.ofNat s.size) := by
    unfold n64
    rw [UInt64.toNat_ofNat_of_lt' (by show s.size < 18446744073709551616; omega), wrap_u64]
    omega
  have HN := Lib.hid (num_ok (UInt64.ofNat s.size) w hw)
  have HT : Hid (textS s = numB (UInt64.ofNat s.size) ++ s) := rfl
  have hz := numB_size (UInt64.ofNat s.size)
  have hle : ¬ (9223372036854775807 < (numB (UInt64.ofNat s.size)).size + s.size) := by omega
  rw [HT.out]
  clear hw
  generalize numB (UInt64.ofNat s.size) = nb at *
  go_enter Tryz.func127, Tryz.ntmps127
  go_wp2_with fail
  refine HN.out.mono ?_
  rintro e w1 ⟨rfl, hb⟩
  have HB := Lib.hid hb
  clear hb HN
  go_wp2_with fail
  go_ret
  exact ⟨rfl, HB.out⟩

end Go.Proofs.YtimpjlnbbdfehaaGreatDoor
namespace Go.Proofs.YtimpjlnbbdfehaaGreatDoor
open Go.RowKit Go.Shelf Go.Lib Go.Sort
set_option linter.unusedVariables false
attribute [local go_sem ↓] shr_32_1 shl_32_1 shr_32_2 shl_32_2 shr_32_3 shl_32_3 shr_32_4 shl_32_4 shr_32_5 shl_32_5 shr_32_6 shl_32_6 shr_32_7 shl_32_7 shr_32_8 shl_32_8 shr_32_9 shl_32_9 shr_32_10 shl_32_10 shr_32_11 shl_32_11 shr_32_12 shl_32_12 shr_32_13 shl_32_13 shr_32_14 shl_32_14 shr_32_15 shl_32_15 shr_32_16 shl_32_16 shr_32_17 shl_32_17 shr_32_18 shl_32_18 shr_32_19 shl_32_19 shr_32_20 shl_32_20 shr_32_21 shl_32_21 shr_32_22 shl_32_22 shr_32_23 shl_32_23 shr_32_24 shl_32_24 shr_32_25 shl_32_25 shr_32_26 shl_32_26 shr_32_27 shl_32_27 shr_32_28 shl_32_28 shr_32_29 shl_32_29 shr_32_30 shl_32_30 shr_32_31 shl_32_31 shr_64_3 shl_64_3 shr_64_7 shl_64_7 shr_64_8 shl_64_8 shr_64_16 shl_64_16 shr_64_24 shl_64_24 shr_64_32 shl_64_32 shr_64_40 shl_64_40 shr_64_48 shl_64_48 shr_64_56 shl_64_56
attribute [local go_sem] add_u32 add_u64 and_u8 or_u8 xor_u8 and_u32 or_u32 xor_u32 and_u64 or_u64 xor_u64 conv_32_8 conv_64_8 conv_64_32 conv_8_32 conv_8_64 conv_32_64

attribute [local go_sem] or_u8_128 and_u8_127 and_u8_128
/-! ### A reader's numbers and texts -/
set_option maxHeartbeats 1000000 in
set_option maxRecDepth 100000 in
theorem bytes_none (g : Nat) (s : ByteArray) (e : Int) (w : World) (h : Rd w g s e) :
    Calls Tryz.prog 91 #[rdP g, .int .i64 0] w fun x w' => x = .returned (.string ⟨#[]⟩) ∧ w = w' := by
  have HL := Lib.hid (left_ok g s e w h)
  have hd : decide ((s.size : Int) < 0) = false := by simp
  clear h
  unfold rdP at *
  go_enter Tryz.func91, Tryz.ntmps91
  go_wp2_with fail
  refine HL.out.mono ?_
  rintro x w1 ⟨rfl, rfl⟩
  go_wp2_with fail
  go_ret
  exact ⟨rfl, rfl⟩
/-- What is read of a number: it, what is left, the error. -/
def rnum (most : UInt64) : Nat → Nat → UInt64 → ByteArray → Int → UInt64 × ByteArray × Int
  | 0, _, _, s, e => (0, s, e)
  | k + 1, i, n, s, e =>
    if s.size = 0 then (0, failS s e, failE e 2)
    else
      let c := gb s 0
      let s1 := s.extract 1 s.size
      let n1 := n ||| (up64 (c &&& 127) <<< UInt64.ofNat (7 * i))
      if (c = 0 ∧ 0 < i) ∨ (i = 9 ∧ 1 < c.toNat) then (0, failS s1 e, failE e 3)
      else if c &&& 128 = 0 then (if most.toNat < n1.toNat then (0, failS s1 e, failE e 3) else (n1, s1, e))
      else rnum most k (i + 1) n1 s1 e
def rnumF (most : UInt64) (s : ByteArray) (e : Int) : UInt64 × ByteArray × Int := rnum most 10 0 0 s e
theorem n8_eq (a b : UInt8) : (n8 a == n8 b) = decide (a = b) := by
  rw [Bool.eq_iff_iff]
  simp only [beq_iff_eq, decide_eq_true_eq]
  constructor
  · intro h
    unfold n8 at h
    exact UInt8.toNat_inj.1 (by omega)
  · rintro rfl
    rfl
theorem only_two {a b c : World} {S : List Nat} (h : Only a b S) (k : Only b c S) : Only a c S := h.trans k
set_option maxHeartbeats 8000000 in
set_option maxRecDepth 100000 in
theorem rnum_ok (most : UInt64) (g : Nat) (s0 : ByteArray) (e0 : Int) (hs0 : s0.size ≤ 1000000) (w : World) (h0 : Rd w g s0 e0) :
    Calls Tryz.prog 92 #[rdP g, .int .u64 (n64 most)] w fun x w' => x = .returned (.int .u64 (n64 (rnumF most s0 e0).1)) ∧ Rd w' g (rnumF most s0 e0).2.1 (rnumF most s0 e0).2.2 ∧ Only w w' [g] := by
  have HB1 := Lib.hid (fun (s : ByteArray) (e : Int) (hs : s.size ≤ 1000000) (w1 : World) (h : Rd w1 g s e) => bytes_ok g s e 1 hs (by decide) (by decide) w1 h)
  have HF := Lib.hid (fun (s : ByteArray) (e : Int) (w1 : World) (h : Rd w1 g s e) => fail_ok g s e 3 (by decide) w1 h)
  have HR0 := Lib.hid h0
  have HS0 : Hid (s0.size ≤ 1000000) := hs0
  have HZ : Hid ((n64 0 : Int) = 0) := rfl
  have HE : Hid (rnumF most s0 e0 = rnum most 10 0 0 s0 e0) := rfl
  generalize rnumF most s0 e0 = res at *
  clear h0 hs0
  unfold rdP at *
  go_enter Tryz.func92, Tryz.ntmps92
  go_wp2_with fail
  go_loopg [5, 9] 10 (fun q v5 v9 wr => ∃ (i : Nat) (n : UInt64) (s : ByteArray) (e : Int), q + i = 10 ∧ v9 = .int .i64 (i : Int) ∧ v5 = .int .u64 (n64 n) ∧ res = rnum most q i n s e ∧ s.size ≤ 1000000 ∧ Rd wr g s e ∧ Only w wr [g])
  case atStart => exact ⟨0, 0, s0, e0, rfl, rfl, by rw [HZ.out], HE.out, HS0.out, HR0.out, Only.refl _ _⟩
  case round =>
    obtain ⟨i, n, s, e, hq, rfl, rfl, hres, hss, hrd, hon⟩ := hrel
    have RR := Lib.hid hrd
    have RO := Lib.hid hon
    have RE := Lib.hid hres
    have RS : Hid (s.size ≤ 1000000) := hss
    clear hrd hon hres hss HR0 HE
    by_cases hi : i < 10
    · have hd : decide ((i : Int) < 10) = true := by simp; omega
      obtain ⟨q, rfl⟩ : ∃ q, gk = q + 1 := ⟨gk - 1, by omega⟩
      have HC := Lib.hid (HB1.out s e RS.out wr RR.out)
      by_cases hz : s.size = 0
      · have ht1 : takeB s e 1 = ⟨#[]⟩ := if_neg (by omega)
        have ht2 : takeS s e 1 = failS s e := if_neg (by omega)
        have ht3 : takeE s e 1 = failE e 2 := if_neg (by omega)
        rw [ht1, ht2, ht3] at HC
        have HQ : Hid (res = (0, failS s e, failE e 2)) := RE.out.trans (if_pos hz)
        clear ht1 ht2 ht3 hz
        go_wp2_with fail
        refine HC.out.mono ?_
        rintro x w1 ⟨rfl, hr, ho⟩
        have HR1 := Lib.hid hr
        have HO1 := Lib.hid (RO.out.trans ho)
        clear hr ho HC
        go_wp2_with fail
        go_ret
        exact ⟨by rw [HQ.out]; rfl, by rw [HQ.out]; exact HR1.out, HO1.out⟩
      · have ht1 : takeB s e 1 = s.extract 0 1 := if_pos (by omega)
        have ht2 : takeS s e 1 = s.extract 1 s.size := if_pos (by omega)
        have ht3 : takeE s e 1 = e := if_pos (by omega)
        rw [ht1, ht2, ht3] at HC
        have hs1 : (s.extract 0 1).size = 1 := by rw [ByteArray.size_extract]; omega
        have hg1 : gb (s.extract 0 1) 0 = gb s 0 := gb_mid s 0 1 0 (by omega)
        have hix := fun w => ix_str (s.extract 0 1) 0 0 rfl (by omega) w
        rw [hg1] at hix
        have hne : (s.extract 0 1).toList.isEmpty = false := str_full (fun e => by rw [e] at hs1; cases hs1)
        have HS1 : Hid ((s.extract 1 s.size).size ≤ 1000000) := by have := RS.out; show _ ≤ _; rw [ByteArray.size_extract]; omega
        have HQ : Hid (res = if (gb s 0 = 0 ∧ 0 < i) ∨ (i = 9 ∧ 1 < (gb s 0).toNat) then (0, failS (s.extract 1 s.size) e, failE e 3)
            else if gb s 0 &&& 128 = 0 then (if most.toNat < (n ||| (up64 (gb s 0 &&& 127) <<< UInt64.ofNat (7 * i))).toNat then (0, failS (s.extract 1 s.size) e, failE e 3) else (n ||| (up64 (gb s 0 &&& 127) <<< UInt64.ofNat (7 * i)), s.extract 1 s.size, e))
            else rnum most q (i + 1) (n ||| (up64 (gb s 0 &&& 127) <<< UInt64.ofNat (7 * i))) (s.extract 1 s.size) e) := RE.out.trans (if_neg hz)
        clear ht1 ht2 ht3 hz hg1
        obtain ⟨K7, hK7⟩ : ∃ K7 : Int, K7 = ((7 * i : Nat) : Int) := ⟨_, rfl⟩
        have hm1 : IntKind.i64.wrap (7 * (i : Int)) = K7 := by rw [hK7]; exact (wrap_in _ (by omega) (by omega)).trans (by omega)
        have hm2 : wrap64 (7 * (i : Int)) = K7 := by rw [hK7]; unfold wrap64; omega
        have hsh : ∀ (x : UInt64) (yk : IntKind), Op.shift .shl .u64 (n64 x) yk K7 = pure (.int .u64 (n64 (x <<< UInt64.ofNat (7 * i)))) := fun x yk => by rw [hK7]; exact shl_64 x yk (7 * i) (by omega)
        clear hK7
        generalize s.extract 0 1 = b1 at *
        generalize s.extract 1 s.size = s1 at *
        generalize gb s 0 = c at *
        generalize UInt64.ofNat (7 * i) = sft at *
        go_wp2_with fail
        refine HC.out.mono ?_
        rintro x w1 ⟨rfl, hr, ho⟩
        have HR1 := Lib.hid hr
        have HO1 := Lib.hid (RO.out.trans ho)
        clear hr ho HC
        have HFF := Lib.hid (HF.out s1 e w1 HR1.out)
        by_cases hA : (c = 0 ∧ 0 < i) ∨ (i = 9 ∧ 1 < c.toNat)
        · have HQ2 : Hid (res = (0, failS s1 e, failE e 3)) := HQ.out.trans (if_pos hA)
          clear HQ
          by_cases hc : c = 0
          · have hi0 : 0 < i := by
              rcases hA with h | ⟨_, h⟩
              · exact h.2
              · rw [hc] at h; cases h
            have h0 : (n8 c == 0) = true := (n8_eq c 0).trans (decide_eq_true hc)
            have h1 : decide ((0 : Int) < (i : Int)) = true := by simp; omega
            have h1n : decide (0 < i) = true := by simp; omega
            clear hA hc
            go_wp2_with fail
            refine HFF.out.mono ?_
            rintro x w2 ⟨rfl, hr, ho⟩
            have HR2 := Lib.hid hr
            have HO2 := Lib.hid (HO1.out.trans ho)
            clear hr ho HFF
            go_wp2_with fail
            go_ret
            exact ⟨by rw [HQ2.out]; rfl, by rw [HQ2.out]; exact HR2.out, HO2.out⟩
          · obtain ⟨hi9, hc1⟩ : i = 9 ∧ 1 < c.toNat := by
              rcases hA with h | h
              · exact absurd h.1 hc
              · exact h
            have h0 : (n8 c == 0) = false := (n8_eq c 0).trans (decide_eq_false hc)
            have h9 : ((i : Int) == 9) = true := by simp; omega
            have h1 : decide ((1 : Int) < n8 c) = true := by unfold n8; simp; omega
            clear hA hc
            go_wp2_with fail
            refine HFF.out.mono ?_
            rintro x w2 ⟨rfl, hr, ho⟩
            have HR2 := Lib.hid hr
            have HO2 := Lib.hid (HO1.out.trans ho)
            clear hr ho HFF
            go_wp2_with fail
            go_ret
            exact ⟨by rw [HQ2.out]; rfl, by rw [HQ2.out]; exact HR2.out, HO2.out⟩
        · by_cases hc : c = 0
          · have hi0 : i = 0 := by
              apply Classical.byContradiction
              intro hn
              exact hA (.inl ⟨hc, by omega⟩)
            have h0 : (n8 c == 0) = true := (n8_eq c 0).trans (decide_eq_true hc)
            have h1 : decide ((0 : Int) < (i : Int)) = false := by simp; omega
            have h1n : decide (0 < i) = false := by simp; omega
            have h1m : ¬ 0 < i := by omega
            have h9 : ((i : Int) == 9) = false := by simp; omega
            clear hc hi0
            by_cases hC : c &&& 128 = 0
            · have h128 : (n8 (c &&& 128) == 0) = true := (n8_eq _ 0).trans (decide_eq_true hC)
              by_cases hmo : most.toNat < (n ||| (up64 (c &&& 127) <<< sft)).toNat
              · have hmd : decide (n64 most < n64 (n ||| (up64 (c &&& 127) <<< sft))) = true := decide_eq_true (Int.ofNat_lt.2 hmo)
                have HQ2 : Hid (res = (0, failS s1 e, failE e 3)) := HQ.out.trans ((if_neg hA).trans ((if_pos hC).trans (if_pos hmo)))
                clear HQ hmo hA hC
                go_wp2_with fail
                refine HFF.out.mono ?_
                rintro x w2 ⟨rfl, hr, ho⟩
                have HR2 := Lib.hid hr
                have HO2 := Lib.hid (HO1.out.trans ho)
                clear hr ho HFF
                go_wp2_with fail
                go_ret
                exact ⟨by rw [HQ2.out]; rfl, by rw [HQ2.out]; exact HR2.out, HO2.out⟩
              · have hmd : decide (n64 most < n64 (n ||| (up64 (c &&& 127) <<< sft))) = false := decide_eq_false (fun h => hmo (Int.ofNat_lt.1 h))
                have HQ2 : Hid (res = ((n ||| (up64 (c &&& 127) <<< sft)), s1, e)) := HQ.out.trans ((if_neg hA).trans ((if_pos hC).trans (if_neg hmo)))
                clear HQ hmo hA hC
                go_wp2_with fail
                go_ret
                exact ⟨by rw [HQ2.out]; rfl, by rw [HQ2.out]; exact HR1.out, HO1.out⟩
            · have h128 : (n8 (c &&& 128) == 0) = false := (n8_eq _ 0).trans (decide_eq_false hC)
              have HQ2 : Hid (res = rnum most q (i + 1) (n ||| (up64 (c &&& 127) <<< sft)) s1 e) := HQ.out.trans ((if_neg hA).trans (if_neg hC))
              clear HQ hA hC
              go_wp2_with fail
              go_roundg q
              case measure => omega
              case rel => exact ⟨i + 1, _, s1, e, by omega, by go_num, rfl, HQ2.out, HS1.out, HR1.out, HO1.out⟩
          · have h0 : (n8 c == 0) = false := (n8_eq c 0).trans (decide_eq_false hc)
            by_cases hi9 : i = 9
            · have h9 : ((i : Int) == 9) = true := by simp; omega
              have h1 : decide ((1 : Int) < n8 c) = false := by
                have : ¬ 1 < c.toNat := fun h => hA (.inr ⟨hi9, h⟩)
                unfold n8
                simp
                omega
              clear hc hi9
              by_cases hC : c &&& 128 = 0
              · have h128 : (n8 (c &&& 128) == 0) = true := (n8_eq _ 0).trans (decide_eq_true hC)
                by_cases hmo : most.toNat < (n ||| (up64 (c &&& 127) <<< sft)).toNat
                · have hmd : decide (n64 most < n64 (n ||| (up64 (c &&& 127) <<< sft))) = true := decide_eq_true (Int.ofNat_lt.2 hmo)
                  have HQ2 : Hid (res = (0, failS s1 e, failE e 3)) := HQ.out.trans ((if_neg hA).trans ((if_pos hC).trans (if_pos hmo)))
                  clear HQ hmo hA hC
                  go_wp2_with fail
                  refine HFF.out.mono ?_
                  rintro x w2 ⟨rfl, hr, ho⟩
                  have HR2 := Lib.hid hr
                  have HO2 := Lib.hid (HO1.out.trans ho)
                  clear hr ho HFF
                  go_wp2_with fail
                  go_ret
                  exact ⟨by rw [HQ2.out]; rfl, by rw [HQ2.out]; exact HR2.out, HO2.out⟩
                · have hmd : decide (n64 most < n64 (n ||| (up64 (c &&& 127) <<< sft))) = false := decide_eq_false (fun h => hmo (Int.ofNat_lt.1 h))
                  have HQ2 : Hid (res = ((n ||| (up64 (c &&& 127) <<< sft)), s1, e)) := HQ.out.trans ((if_neg hA).trans ((if_pos hC).trans (if_neg hmo)))
                  clear HQ hmo hA hC
                  go_wp2_with fail
                  go_ret
                  exact ⟨by rw [HQ2.out]; rfl, by rw [HQ2.out]; exact HR1.out, HO1.out⟩
              · have h128 : (n8 (c &&& 128) == 0) = false := (n8_eq _ 0).trans (decide_eq_false hC)
                have HQ2 : Hid (res = rnum most q (i + 1) (n ||| (up64 (c &&& 127) <<< sft)) s1 e) := HQ.out.trans ((if_neg hA).trans (if_neg hC))
                clear HQ hA hC
                go_wp2_with fail
                go_roundg q
                case measure => omega
                case rel => exact ⟨i + 1, _, s1, e, by omega, by go_num, rfl, HQ2.out, HS1.out, HR1.out, HO1.out⟩
            · have h9 : ((i : Int) == 9) = false := by simp; omega
              clear hc hi9
              by_cases hC : c &&& 128 = 0
              · have h128 : (n8 (c &&& 128) == 0) = true := (n8_eq _ 0).trans (decide_eq_true hC)
                by_cases hmo : most.toNat < (n ||| (up64 (c &&& 127) <<< sft)).toNat
                · have hmd : decide (n64 most < n64 (n ||| (up64 (c &&& 127) <<< sft))) = true := decide_eq_true (Int.ofNat_lt.2 hmo)
                  have HQ2 : Hid (res = (0, failS s1 e, failE e 3)) := HQ.out.trans ((if_neg hA).trans ((if_pos hC).trans (if_pos hmo)))
                  clear HQ hmo hA hC
                  go_wp2_with fail
                  refine HFF.out.mono ?_
                  rintro x w2 ⟨rfl, hr, ho⟩
                  have HR2 := Lib.hid hr
                  have HO2 := Lib.hid (HO1.out.trans ho)
                  clear hr ho HFF
                  go_wp2_with fail
                  go_ret
                  exact ⟨by rw [HQ2.out]; rfl, by rw [HQ2.out]; exact HR2.out, HO2.out⟩
                · have hmd : decide (n64 most < n64 (n ||| (up64 (c &&& 127) <<< sft))) = false := decide_eq_false (fun h => hmo (Int.ofNat_lt.1 h))
                  have HQ2 : Hid (res = ((n ||| (up64 (c &&& 127) <<< sft)), s1, e)) := HQ.out.trans ((if_neg hA).trans ((if_pos hC).trans (if_neg hmo)))
                  clear HQ hmo hA hC
                  go_wp2_with fail
                  go_ret
                  exact ⟨by rw [HQ2.out]; rfl, by rw [HQ2.out]; exact HR1.out, HO1.out⟩
              · have h128 : (n8 (c &&& 128) == 0) = false := (n8_eq _ 0).trans (decide_eq_false hC)
                have HQ2 : Hid (res = rnum most q (i + 1) (n ||| (up64 (c &&& 127) <<< sft)) s1 e) := HQ.out.trans ((if_neg hA).trans (if_neg hC))
                clear HQ hA hC
                go_wp2_with fail
                go_roundg q
                case measure => omega
                case rel => exact ⟨i + 1, _, s1, e, by omega, by go_num, rfl, HQ2.out, HS1.out, HR1.out, HO1.out⟩
    · obtain rfl : i = 10 := by omega
      have hg0 : gk = 0 := by omega
      subst hg0
      have HQ : Hid (res = (0, s, e)) := RE.out
      go_wp2_with fail
      go_ret
      exact ⟨by rw [HQ.out]; rfl, by rw [HQ.out]; exact RR.out, RO.out⟩

end Go.Proofs.YtimpjlnbbdfehaaGreatDoor
namespace Go.Proofs.YtimpjlnbbdfehaaGreatDoor
open Go.RowKit Go.Shelf Go.Lib Go.Sort
set_option linter.unusedVariables false
attribute [local go_sem ↓] shr_32_1 shl_32_1 shr_32_2 shl_32_2 shr_32_3 shl_32_3 shr_32_4 shl_32_4 shr_32_5 shl_32_5 shr_32_6 shl_32_6 shr_32_7 shl_32_7 shr_32_8 shl_32_8 shr_32_9 shl_32_9 shr_32_10 shl_32_10 shr_32_11 shl_32_11 shr_32_12 shl_32_12 shr_32_13 shl_32_13 shr_32_14 shl_32_14 shr_32_15 shl_32_15 shr_32_16 shl_32_16 shr_32_17 shl_32_17 shr_32_18 shl_32_18 shr_32_19 shl_32_19 shr_32_20 shl_32_20 shr_32_21 shl_32_21 shr_32_22 shl_32_22 shr_32_23 shl_32_23 shr_32_24 shl_32_24 shr_32_25 shl_32_25 shr_32_26 shl_32_26 shr_32_27 shl_32_27 shr_32_28 shl_32_28 shr_32_29 shl_32_29 shr_32_30 shl_32_30 shr_32_31 shl_32_31 shr_64_3 shl_64_3 shr_64_7 shl_64_7 shr_64_8 shl_64_8 shr_64_16 shl_64_16 shr_64_24 shl_64_24 shr_64_32 shl_64_32 shr_64_40 shl_64_40 shr_64_48 shl_64_48 shr_64_56 shl_64_56
attribute [local go_sem] add_u32 add_u64 and_u8 or_u8 xor_u8 and_u32 or_u32 xor_u32 and_u64 or_u64 xor_u64 conv_32_8 conv_64_8 conv_64_32 conv_8_32 conv_8_64 conv_32_64

theorem rnum_le (most : UInt64) (k i : Nat) (n : UInt64) (s : ByteArray) (e : Int) : (rnum most k i n s e).1.toNat ≤ most.toNat := by
  induction k generalizing i n s e with
  | zero => exact Nat.zero_le _
  | succ k ih =>
    unfold rnum
    split
    · exact Nat.zero_le _
    · dsimp only
      split
      · exact Nat.zero_le _
      · split
        · split
          · exact Nat.zero_le _
          · dsimp only; omega
        · exact ih _ _ _ _
theorem failS_size (s : ByteArray) (e : Int) : (failS s e).size ≤ s.size := by
  unfold failS
  split
  · exact Nat.zero_le _
  · exact Nat.le_refl _
theorem rnum_rest (most : UInt64) (k i : Nat) (n : UInt64) (s : ByteArray) (e : Int) : (rnum most k i n s e).2.1.size ≤ s.size := by
  induction k generalizing i n s e with
  | zero => exact Nat.le_refl _
  | succ k ih =>
    have h1 : (s.extract 1 s.size).size ≤ s.size := by rw [ByteArray.size_extract]; omega
    unfold rnum
    split
    · exact failS_size s e
    · dsimp only
      split
      · exact Nat.le_trans (failS_size _ e) h1
      · split
        · split
          · exact Nat.le_trans (failS_size _ e) h1
          · exact h1
        · exact Nat.le_trans (ih _ _ _ _) h1
theorem takeS_size (s : ByteArray) (e : Int) (n : Nat) : (takeS s e n).size ≤ s.size := by
  unfold takeS
  split
  · rw [ByteArray.size_extract]; omega
  · exact failS_size s e
def rtextF (m : Nat) (s : ByteArray) (e : Int) : ByteArray × ByteArray × Int :=
  (takeB (rnumF (UInt64.ofNat m) s e).2.1 (rnumF (UInt64.ofNat m) s e).2.2 (rnumF (UInt64.ofNat m) s e).1.toNat,
    takeS (rnumF (UInt64.ofNat m) s e).2.1 (rnumF (UInt64.ofNat m) s e).2.2 (rnumF (UInt64.ofNat m) s e).1.toNat,
    takeE (rnumF (UInt64.ofNat m) s e).2.1 (rnumF (UInt64.ofNat m) s e).2.2 (rnumF (UInt64.ofNat m) s e).1.toNat)
theorem n64_nat (k : Nat) (h : k < 18446744073709551616) : n64 (UInt64.ofNat k) = (k : Int) := by
  unfold n64
  rw [UInt64.toNat_ofNat_of_lt' (by show k < 18446744073709551616; exact h)]
theorem n64_u (x : UInt64) : n64 x = ((x.toNat : Nat) : Int) := rfl
/-- So many bytes, none too. -/
theorem bytes_any (g : Nat) (s : ByteArray) (e : Int) (n : Nat) (hs : s.size ≤ 1000000) (hn : n ≤ 1000000) (w : World) (h : Rd w g s e) :
    Calls Tryz.prog 91 #[rdP g, .int .i64 (n : Int)] w fun x w' => x = .returned (.string (takeB s e n)) ∧ Rd w' g (takeS s e n) (takeE s e n) ∧ Only w w' [g] := by
  rcases Nat.eq_zero_or_pos n with rfl | h0
  · have e1 : takeB s e 0 = ⟨#[]⟩ := by
      unfold takeB
      rw [if_pos (Nat.zero_le _)]
      exact ByteArray.ext (by simp [ByteArray.extract, ByteArray.copySlice])
    have e2 : takeS s e 0 = s := by
      unfold takeS
      rw [if_pos (Nat.zero_le _)]
      exact ByteArray.extract_zero_size
    have e3 : takeE s e 0 = e := if_pos (Nat.zero_le _)
    rw [e1, e2, e3]
    exact (bytes_none g s e w h).mono fun x w' ⟨hx, hw⟩ => ⟨hx, by rw [← hw]; exact h, by rw [← hw]; exact Only.refl _ _⟩
  · exact bytes_ok g s e n hs h0 hn w h
set_option maxHeartbeats 2000000 in
set_option maxRecDepth 100000 in
theorem rtext_ok (m : Nat) (hm : m ≤ 65536) (g : Nat) (s : ByteArray) (e : Int) (hs : s.size ≤ 1000000) (w : World) (h : Rd w g s e) :
    Calls Tryz.prog 93 #[rdP g, .int .i64 (m : Int)] w fun x w' => x = .returned (.string (rtextF m s e).1) ∧ Rd w' g (rtextF m s e).2.1 (rtextF m s e).2.2 ∧ Only w w' [g] := by
  have HN := Lib.hid (rnum_ok (UInt64.ofNat m) g s e hs w h)
  have HT : Hid (rtextF m s e = (takeB (rnumF (UInt64.ofNat m) s e).2.1 (rnumF (UInt64.ofNat m) s e).2.2 (rnumF (UInt64.ofNat m) s e).1.toNat, takeS (rnumF (UInt64.ofNat m) s e).2.1 (rnumF (UInt64.ofNat m) s e).2.2 (rnumF (UInt64.ofNat m) s e).1.toNat, takeE (rnumF (UInt64.ofNat m) s e).2.1 (rnumF (UInt64.ofNat m) s e).2.2 (rnumF (UInt64.ofNat m) s e).1.toNat)) := rfl
  have hle : (rnumF (UInt64.ofNat m) s e).1.toNat ≤ m := by
    have := rnum_le (UInt64.ofNat m) 10 0 0 s e
    rw [UInt64.toNat_ofNat_of_lt' (by show m < 18446744073709551616; omega)] at this
    exact this
  have hrs : (rnumF (UInt64.ofNat m) s e).2.1.size ≤ 1000000 := Nat.le_trans (rnum_rest (UInt64.ofNat m) 10 0 0 s e) hs
  rw [n64_nat m (by omega), n64_u] at HN
  rw [HT.out]
  generalize (rnumF (UInt64.ofNat m) s e).1.toNat = k at *
  generalize (rnumF (UInt64.ofNat m) s e).2.1 = s1 at *
  generalize (rnumF (UInt64.ofNat m) s e).2.2 = e1 at *
  have HB := Lib.hid (fun (w1 : World) (h1 : Rd w1 g s1 e1) => bytes_any g s1 e1 k hrs (by omega) w1 h1)
  have hmx : max (m : Int) 0 = (m : Int) := by omega
  have hmn : min (m : Int) 65536 = (m : Int) := by omega
  have hc1 : IntKind.u64.wrap (m : Int) = (m : Int) := by rw [wrap_u64]; omega
  have hc2 : IntKind.i64.wrap (k : Int) = (k : Int) := wrap_in _ (by omega) (by omega)
  have hc3 : wrap64 (k : Int) = (k : Int) := w64_small _ (by omega) (by omega)
  clear h
  unfold rdP at *
  go_enter Tryz.func93, Tryz.ntmps93
  go_wp2_with fail
  refine HN.out.mono ?_
  rintro x w1 ⟨rfl, hr, ho⟩
  have HB1 := Lib.hid (HB.out w1 hr)
  have HO1 := Lib.hid ho
  clear hr ho HN HB
  go_wp2_with fail
  refine HB1.out.mono ?_
  rintro x w2 ⟨rfl, hr, ho⟩
  have HR2 := Lib.hid hr
  have HO2 := Lib.hid (HO1.out.trans ho)
  clear hr ho HB1
  go_wp2_with fail
  go_ret
  exact ⟨rfl, HR2.out, HO2.out⟩
/-- What an end tells. -/
def endE (s : ByteArray) (e : Int) : Int := if 0 < s.size then failE e 3 else e
set_option maxHeartbeats 2000000 in
set_option maxRecDepth 100000 in
theorem rend_ok (g : Nat) (s : ByteArray) (e : Int) (w : World) (h : Rd w g s e) :
    Calls Tryz.prog 95 #[rdP g] w fun x w' => x = .returned (.int .i64 (endE s e)) ∧ Only w w' [g] := by
  have HL := Lib.hid (left_ok g s e w h)
  by_cases hz : 0 < s.size
  · have HF := Lib.hid (fail_ok g s e 3 (by decide) w h)
    have HE : Hid (endE s e = failE e 3) := if_pos hz
    have HER := Lib.hid (fun (w1 : World) (h1 : Rd w1 g (failS s e) (failE e 3)) => err_ok g _ _ w1 h1)
    have hd : decide (0 < s.size) = true := decide_eq_true hz
    rw [HE.out]
    clear h hz
    generalize failS s e = s1 at *
    generalize failE e 3 = e1 at *
    unfold rdP at *
    go_enter Tryz.func95, Tryz.ntmps95
    go_wp2_with fail
    refine HL.out.mono ?_
    rintro x w1 ⟨rfl, rfl⟩
    go_wp2_with fail
    refine HF.out.mono ?_
    rintro x w1 ⟨rfl, hr, ho⟩
    have HR := Lib.hid (HER.out w1 hr)
    have HO := Lib.hid ho
    clear hr ho HF HER
    go_wp2_with fail
    refine HR.out.mono ?_
    rintro x w2 ⟨rfl, rfl⟩
    go_wp2_with fail
    go_ret
    exact ⟨rfl, HO.out⟩
  · have HE : Hid (endE s e = e) := if_neg hz
    have HER := Lib.hid (err_ok g s e w h)
    have hd : decide (0 < s.size) = false := decide_eq_false hz
    rw [HE.out]
    clear h hz
    unfold rdP at *
    go_enter Tryz.func95, Tryz.ntmps95
    go_wp2_with fail
    refine HL.out.mono ?_
    rintro x w1 ⟨rfl, rfl⟩
    go_wp2_with fail
    refine HER.out.mono ?_
    rintro x w2 ⟨rfl, rfl⟩
    go_wp2_with fail
    go_ret
    exact ⟨rfl, Only.refl _ _⟩

end Go.Proofs.YtimpjlnbbdfehaaGreatDoor
namespace Go.Proofs.YtimpjlnbbdfehaaGreatDoor
open Go.RowKit Go.Shelf Go.Lib Go.Sort
set_option linter.unusedVariables false
attribute [local go_sem ↓] shr_32_1 shl_32_1 shr_32_2 shl_32_2 shr_32_3 shl_32_3 shr_32_4 shl_32_4 shr_32_5 shl_32_5 shr_32_6 shl_32_6 shr_32_7 shl_32_7 shr_32_8 shl_32_8 shr_32_9 shl_32_9 shr_32_10 shl_32_10 shr_32_11 shl_32_11 shr_32_12 shl_32_12 shr_32_13 shl_32_13 shr_32_14 shl_32_14 shr_32_15 shl_32_15 shr_32_16 shl_32_16 shr_32_17 shl_32_17 shr_32_18 shl_32_18 shr_32_19 shl_32_19 shr_32_20 shl_32_20 shr_32_21 shl_32_21 shr_32_22 shl_32_22 shr_32_23 shl_32_23 shr_32_24 shl_32_24 shr_32_25 shl_32_25 shr_32_26 shl_32_26 shr_32_27 shl_32_27 shr_32_28 shl_32_28 shr_32_29 shl_32_29 shr_32_30 shl_32_30 shr_32_31 shl_32_31 shr_64_3 shl_64_3 shr_64_7 shl_64_7 shr_64_8 shl_64_8 shr_64_16 shl_64_16 shr_64_24 shl_64_24 shr_64_32 shl_64_32 shr_64_40 shl_64_40 shr_64_48 shl_64_48 shr_64_56 shl_64_56
attribute [local go_sem] add_u32 add_u64 and_u8 or_u8 xor_u8 and_u32 or_u32 xor_u32 and_u64 or_u64 xor_u64 conv_32_8 conv_64_8 conv_64_32 conv_8_32 conv_8_64 conv_32_64

/-! ### A page of a long value -/
/-- A page: where the next one is, its bytes. -/
structure BPg where
  r : Ref
  d : ByteArray
def BPg.cells (x : BPg) : List Value := [.int .i64 x.r.place, .string x.r.sum, .string x.d]
def markB : ByteArray := ⟨#[66]⟩
def bput (x : BPg) : ByteArray := markB ++ numB (UInt64.ofNat (x.r.place + 1).toNat) ++ textS x.r.sum ++ textS x.d
theorem textS_size (s : ByteArray) (h : s.size < 16384) : (textS s).size ≤ s.size + 2 := by
  unfold textS
  have := numB_small (UInt64.ofNat s.size) (by rw [UInt64.toNat_ofNat_of_lt' (by show s.size < 18446744073709551616; omega)]; exact h)
  rw [ByteArray.size_append]
  omega
theorem bput_size (x : BPg) (h1 : x.r.place < 16000) (h2 : x.r.sum.size ≤ 32) (h3 : x.d.size ≤ 400) : (bput x).size ≤ 462 := by
  unfold bput
  have a := textS_size x.r.sum (by omega)
  have b := textS_size x.d (by omega)
  have c := numB_small (UInt64.ofNat (x.r.place + 1).toNat) (by rw [UInt64.toNat_ofNat_of_lt' (by show _ < 18446744073709551616; omega)]; omega)
  rw [ByteArray.size_append, ByteArray.size_append, ByteArray.size_append]
  show 1 + _ + _ + _ ≤ 462
  omega
theorem info163 : (Tryz.prog.info? 163).map (·.size) = some 3 := by kernel_rfl
theorem zero163 : (Tryz.prog.info? 163).map (·.zero) = some (some (.agg #[.int .i64 0, .string ⟨#[]⟩, .string ⟨#[]⟩])) := by kernel_rfl

end Go.Proofs.YtimpjlnbbdfehaaGreatDoor
namespace Go.Proofs.YtimpjlnbbdfehaaGreatDoor
open Go.RowKit Go.Shelf Go.Lib Go.Sort
set_option linter.unusedVariables false
attribute [local go_sem ↓] shr_32_1 shl_32_1 shr_32_2 shl_32_2 shr_32_3 shl_32_3 shr_32_4 shl_32_4 shr_32_5 shl_32_5 shr_32_6 shl_32_6 shr_32_7 shl_32_7 shr_32_8 shl_32_8 shr_32_9 shl_32_9 shr_32_10 shl_32_10 shr_32_11 shl_32_11 shr_32_12 shl_32_12 shr_32_13 shl_32_13 shr_32_14 shl_32_14 shr_32_15 shl_32_15 shr_32_16 shl_32_16 shr_32_17 shl_32_17 shr_32_18 shl_32_18 shr_32_19 shl_32_19 shr_32_20 shl_32_20 shr_32_21 shl_32_21 shr_32_22 shl_32_22 shr_32_23 shl_32_23 shr_32_24 shl_32_24 shr_32_25 shl_32_25 shr_32_26 shl_32_26 shr_32_27 shl_32_27 shr_32_28 shl_32_28 shr_32_29 shl_32_29 shr_32_30 shl_32_30 shr_32_31 shl_32_31 shr_64_3 shl_64_3 shr_64_7 shl_64_7 shr_64_8 shl_64_8 shr_64_16 shl_64_16 shr_64_24 shl_64_24 shr_64_32 shl_64_32 shr_64_40 shl_64_40 shr_64_48 shl_64_48 shr_64_56 shl_64_56
attribute [local go_sem] add_u32 add_u64 and_u8 or_u8 xor_u8 and_u32 or_u32 xor_u32 and_u64 or_u64 xor_u64 conv_32_8 conv_64_8 conv_64_32 conv_8_32 conv_8_64 conv_32_64

set_option maxHeartbeats 4000000 in
set_option maxRecDepth 100000 in
theorem cput_ok (pl : Int) (sm dt : ByteArray) (h0 : -1 ≤ pl) (h1 : pl < 16000) (h2 : sm.size ≤ 32) (h3 : dt.size ≤ 400) (w : World) (hw : 0 < w.heap.size) :
    Calls Tryz.prog 88 #[.agg #[.int .i64 pl, .string sm, .string dt]] w fun e w' => e = .returned (.string (bput ⟨⟨pl, sm⟩, dt⟩)) ∧ Below w.heap.size w w' := by
  have HB0 : Hid (Blk (w.alloc (.cells #[.int .i64 pl, .string sm, .string dt] 163)) w.heap.size 163 #[.int .i64 pl, .string sm, .string dt]) := Blk.new w 163 _
  have HW0 : Hid (Below w.heap.size w (w.alloc (.cells #[.int .i64 pl, .string sm, .string dt] 163))) := (Below.refl _ _).alloc (Nat.le_refl _) _
  have HN := Lib.hid (fun (w1 : World) (h : 0 < w1.heap.size) => num_ok (UInt64.ofNat (pl + 1).toNat) w1 h)
  have HT1 := Lib.hid (fun (w1 : World) (h : 0 < w1.heap.size) => ctext_ok sm (by omega) w1 h)
  have HT2 := Lib.hid (fun (w1 : World) (h : 0 < w1.heap.size) => ctext_ok dt (by omega) w1 h)
  have hp1 : IntKind.i64.wrap (pl + 1) = pl + 1 := wrap_in _ (by omega) (by omega)
  have hp1' : wrap64 (pl + 1) = pl + 1 := w64_small _ (by omega) (by omega)
  have hp2 : IntKind.u64.wrap (pl + 1) = n64 (UInt64.ofNat (pl + 1).toNat) := by rw [n64_nat _ (by omega), wrap_u64]; omega
  have hz1 := numB_size (UInt64.ofNat (pl + 1).toNat)
  have hz2 := textS_size sm (by omega)
  have hz3 := textS_size dt (by omega)
  have HP : Hid (bput ⟨⟨pl, sm⟩, dt⟩ = markB ++ numB (UInt64.ofNat (pl + 1).toNat) ++ textS sm ++ textS dt) := rfl
  rw [HP.out]
  clear HP
  unfold markB
  generalize UInt64.ofNat (pl + 1).toNat = u at *
  generalize numB u = nb at *
  generalize textS sm = ts at *
  generalize textS dt = td at *
  have hs1 : ¬ 9223372036854775807 < 1 + nb.size := by omega
  have hs2 : ¬ 9223372036854775807 < 1 + nb.size + ts.size := by omega
  have hs3 : ¬ 9223372036854775807 < 1 + nb.size + ts.size + td.size := by omega
  have HZ : Hid (0 < w.heap.size) := hw
  clear hw
  go_enter Tryz.func88, Tryz.ntmps88
  go_wp2_with fail
  have HB1 : Hid (Blk (w.alloc (.cells #[.int .i64 pl, .string sm, .string dt] 163)).drew w.heap.size 163 #[.int .i64 pl, .string sm, .string dt]) := HB0.out
  refine wp_region_plan (fun w' => w'.cell? ⟨w.heap.size, 0, none⟩ = some (.int .i64 pl) ∧ w'.cell? ⟨w.heap.size, 1, none⟩ = some (.string sm) ∧ w'.cell? ⟨w.heap.size, 2, none⟩ = some (.string dt)) 16 [(true, 0), (true, 1), (true, 2), (true, 3), (true, 4), (true, 7), (true, 8), (true, 9), (true, 12), (true, 13), (false, 5), (true, 6), (false, 10), (true, 11), (false, 14), (true, 15)] (by kernel_rfl) (by kernel_rfl) ⟨HB1.out.cell 0, HB1.out.cell 1, HB1.out.cell 2⟩ ?_
  simp only [List.map_cons, List.map_nil, List.getD_cons_zero, List.getD_cons_succ, List.drop_succ_cons, List.drop_zero]
  (refine plan_take (v := ?_) rfl ?_ ?_; rotate_left; (rintro wS ⟨hS1, hS2, hS3⟩; (try dsimp only at hS1 hS2 hS3); go_simp; try with_reducible rfl); simp only [Act.put, List.setIfInBounds_toArray, List.set_cons_zero, List.set_cons_succ])
  (refine plan_take (v := ?_) rfl ?_ ?_; rotate_left; (rintro wS ⟨hS1, hS2, hS3⟩; (try dsimp only at hS1 hS2 hS3); go_simp; try with_reducible rfl); simp only [Act.put, List.setIfInBounds_toArray, List.set_cons_zero, List.set_cons_succ])
  (refine plan_take (v := ?_) rfl ?_ ?_; rotate_left; (rintro wS ⟨hS1, hS2, hS3⟩; (try dsimp only at hS1 hS2 hS3); go_simp; try with_reducible rfl); simp only [Act.put, List.setIfInBounds_toArray, List.set_cons_zero, List.set_cons_succ])
  (refine plan_take (v := ?_) rfl ?_ ?_; rotate_left; (rintro wS ⟨hS1, hS2, hS3⟩; (try dsimp only at hS1 hS2 hS3); go_simp; try with_reducible rfl); simp only [Act.put, List.setIfInBounds_toArray, List.set_cons_zero, List.set_cons_succ])
  (refine plan_take (v := ?_) rfl ?_ ?_; rotate_left; (rintro wS ⟨hS1, hS2, hS3⟩; (try dsimp only at hS1 hS2 hS3); go_simp; try with_reducible rfl); simp only [Act.put, List.setIfInBounds_toArray, List.set_cons_zero, List.set_cons_succ])
  (refine plan_take (v := ?_) rfl ?_ ?_; rotate_left; (rintro wS ⟨hS1, hS2, hS3⟩; (try dsimp only at hS1 hS2 hS3); go_simp; try with_reducible rfl); simp only [Act.put, List.setIfInBounds_toArray, List.set_cons_zero, List.set_cons_succ])
  (refine plan_take (v := ?_) rfl ?_ ?_; rotate_left; (rintro wS ⟨hS1, hS2, hS3⟩; (try dsimp only at hS1 hS2 hS3); go_simp; try with_reducible rfl); simp only [Act.put, List.setIfInBounds_toArray, List.set_cons_zero, List.set_cons_succ])
  (refine plan_take (v := ?_) rfl ?_ ?_; rotate_left; (rintro wS ⟨hS1, hS2, hS3⟩; (try dsimp only at hS1 hS2 hS3); go_simp; try with_reducible rfl); simp only [Act.put, List.setIfInBounds_toArray, List.set_cons_zero, List.set_cons_succ])
  (refine plan_take (v := ?_) rfl ?_ ?_; rotate_left; (rintro wS ⟨hS1, hS2, hS3⟩; (try dsimp only at hS1 hS2 hS3); go_simp; try with_reducible rfl); simp only [Act.put, List.setIfInBounds_toArray, List.set_cons_zero, List.set_cons_succ])
  (refine plan_take (v := ?_) rfl ?_ ?_; rotate_left; (rintro wS ⟨hS1, hS2, hS3⟩; (try dsimp only at hS1 hS2 hS3); go_simp; try with_reducible rfl); simp only [Act.put, List.setIfInBounds_toArray, List.set_cons_zero, List.set_cons_succ])
  have HWD : Hid (Below w.heap.size w (w.alloc (.cells #[.int .i64 pl, .string sm, .string dt] 163)).drew) := below_drewN HW0.out 1
  refine plan_run rfl (fun K hK => ?_)
  go_simp
  refine (HN.out _ (by have := HZ.out; simp)).mono ?_
  rintro x w2 ⟨rfl, hb⟩
  have HB2 : Hid (Blk w2 w.heap.size 163 #[.int .i64 pl, .string sm, .string dt]) := (hb.block _ HB1.out.lt).trans HB1.out
  have WHB2 : Hid (Below w.heap.size w w2) := HWD.out.trans (hb.mono HWD.out.size)
  clear hb
  refine hK.out _ _ ⟨HB2.out.cell 0, HB2.out.cell 1, HB2.out.cell 2⟩ ?_
  clear hK K
  try simp only [Act.put, List.setIfInBounds_toArray, List.set_cons_zero, List.set_cons_succ]
  (refine plan_take (v := ?_) rfl ?_ ?_; rotate_left; (rintro wS ⟨hS1, hS2, hS3⟩; (try dsimp only at hS1 hS2 hS3); go_simp; try with_reducible rfl); simp only [Act.put, List.setIfInBounds_toArray, List.set_cons_zero, List.set_cons_succ])
  refine plan_run rfl (fun K hK => ?_)
  go_simp
  refine (HT1.out w2 (Nat.lt_of_lt_of_le HZ.out WHB2.out.size)).mono ?_
  rintro x w3 ⟨rfl, hb⟩
  have HB3 : Hid (Blk w3 w.heap.size 163 #[.int .i64 pl, .string sm, .string dt]) := (hb.block _ HB2.out.lt).trans HB2.out
  have WHB3 : Hid (Below w.heap.size w w3) := WHB2.out.trans (hb.mono WHB2.out.size)
  clear hb
  refine hK.out _ _ ⟨HB3.out.cell 0, HB3.out.cell 1, HB3.out.cell 2⟩ ?_
  clear hK K
  try simp only [Act.put, List.setIfInBounds_toArray, List.set_cons_zero, List.set_cons_succ]
  (refine plan_take (v := ?_) rfl ?_ ?_; rotate_left; (rintro wS ⟨hS1, hS2, hS3⟩; (try dsimp only at hS1 hS2 hS3); go_simp; try with_reducible rfl); simp only [Act.put, List.setIfInBounds_toArray, List.set_cons_zero, List.set_cons_succ])
  refine plan_run rfl (fun K hK => ?_)
  go_simp
  refine (HT2.out w3 (Nat.lt_of_lt_of_le HZ.out WHB3.out.size)).mono ?_
  rintro x w4 ⟨rfl, hb⟩
  have HB4 : Hid (Blk w4 w.heap.size 163 #[.int .i64 pl, .string sm, .string dt]) := (hb.block _ HB3.out.lt).trans HB3.out
  have WHB4 : Hid (Below w.heap.size w w4) := WHB3.out.trans (hb.mono WHB3.out.size)
  clear hb
  refine hK.out _ _ ⟨HB4.out.cell 0, HB4.out.cell 1, HB4.out.cell 2⟩ ?_
  clear hK K
  try simp only [Act.put, List.setIfInBounds_toArray, List.set_cons_zero, List.set_cons_succ]
  (refine plan_take (v := ?_) rfl ?_ ?_; rotate_left; (rintro wS ⟨hS1, hS2, hS3⟩; (try dsimp only at hS1 hS2 hS3); go_simp; try with_reducible rfl); simp only [Act.put, List.setIfInBounds_toArray, List.set_cons_zero, List.set_cons_succ])
  refine plan_nil ?_
  go_wp2_with fail
  refine NoPanic.normal ?_
  go_wp2_with fail
  go_ret
  exact ⟨rfl, WHB4.out⟩

end Go.Proofs.YtimpjlnbbdfehaaGreatDoor
namespace Go.Proofs.YtimpjlnbbdfehaaGreatDoor
open Go.RowKit Go.Shelf Go.Lib Go.Sort
set_option linter.unusedVariables false
attribute [local go_sem ↓] shr_32_1 shl_32_1 shr_32_2 shl_32_2 shr_32_3 shl_32_3 shr_32_4 shl_32_4 shr_32_5 shl_32_5 shr_32_6 shl_32_6 shr_32_7 shl_32_7 shr_32_8 shl_32_8 shr_32_9 shl_32_9 shr_32_10 shl_32_10 shr_32_11 shl_32_11 shr_32_12 shl_32_12 shr_32_13 shl_32_13 shr_32_14 shl_32_14 shr_32_15 shl_32_15 shr_32_16 shl_32_16 shr_32_17 shl_32_17 shr_32_18 shl_32_18 shr_32_19 shl_32_19 shr_32_20 shl_32_20 shr_32_21 shl_32_21 shr_32_22 shl_32_22 shr_32_23 shl_32_23 shr_32_24 shl_32_24 shr_32_25 shl_32_25 shr_32_26 shl_32_26 shr_32_27 shl_32_27 shr_32_28 shl_32_28 shr_32_29 shl_32_29 shr_32_30 shl_32_30 shr_32_31 shl_32_31 shr_64_3 shl_64_3 shr_64_7 shl_64_7 shr_64_8 shl_64_8 shr_64_16 shl_64_16 shr_64_24 shl_64_24 shr_64_32 shl_64_32 shr_64_40 shl_64_40 shr_64_48 shl_64_48 shr_64_56 shl_64_56
attribute [local go_sem] add_u32 add_u64 and_u8 or_u8 xor_u8 and_u32 or_u32 xor_u32 and_u64 or_u64 xor_u64 conv_32_8 conv_64_8 conv_64_32 conv_8_32 conv_8_64 conv_32_64

/-! ### A region that draws its order, with guards: by a plan: which operations are taken first, which run and keep S, in what order; then the tail -/
section
variable {P : Program} {ops : Array Oper} {Q : Exit → Act → World → Prop} {md : Region.Mode} {S : World → Prop}

def wpPlanG (P : Program) (ops : Array Oper) (Q : Exit → Act → World → Prop) (S : World → Prop) (L : Act → World → Prop) : List (Bool × Oper) → Act → World → Prop
  | [], a, w => L a w
  | (true, o) :: r, a, w => ∃ v, YieldsIf P ops S o v a ∧ wpPlanG P ops Q S L r (a.put o.dst v) w
  | (false, o) :: r, a, w => Region.wanted o (yielded ops a.tmps) = true ∧ o.wp P a w (fun a' w' => S w' ∧ wpPlanG P ops Q S L r a' w') Q

theorem wpAnyM_planG {g n : Nat} {Lq : Act → World → Prop} {l : List Oper} (hops : ops = l.toArray) (hsel : Region.noSelect ops = true) (hs : Region.sinkB md ops n = true) (hc : Region.chainB md ops n = true) (hn : n < ops.size) (hQ : ∀ c (a a' : Act) w, Q (.panic c) a' w → Q (.panic c) a w) :
    ∀ (plan : List (Bool × Nat)) (listed : Array Bool) (a : Act) (w : World), HeadInv md ops n listed → S w → planB md ops g n plan listed = true →
    wpPlanG P ops Q S Lq (plan.map fun x => (x.1, l.getD x.2 default)) a w →
    wpAnyM P md ops Q S (fun listed' a' w' => Region.seqB md ops g n listed' = true ∧ Lq a' w') plan.length listed a w
  | [], listed, a, w, inv, hS, hB, h => ⟨hB, h⟩
  | (true, i) :: r, listed, a, w, inv, hS, hB, h => by
    simp only [planB, Bool.and_eq_true, decide_eq_true_eq] at hB
    obtain ⟨⟨⟨⟨hin, hil⟩, hr⟩, hf⟩, hB'⟩ := hB
    have hr' : i ∈ Region.ready md ops listed := by simpa using hr
    have h0 : ops[i]? = some (l.getD i default) := by
      subst hops
      have : i < l.length := by simpa using hil
      simp [this]
    obtain ⟨v, hy, hK⟩ := h
    exact wpAnyM_first h0 (Region.noSelect_spec hsel) hs hc hn hin (fun c a w hq => hQ c _ _ w hq) (fun listed' a' w' hL => seqB_ready hL.1) r.length listed a w inv (Region.free_spec h0 hf) hr' hy hS
      (wpAnyM_planG hops hsel hs hc hn hQ r _ _ w (inv.set hr' hin) hS hB' hK)
  | (false, i) :: r, listed, a, w, inv, hS, hB, h => by
    simp only [planB, Bool.and_eq_true, decide_eq_true_eq] at hB
    obtain ⟨⟨⟨hin, hil⟩, hr⟩, hB'⟩ := hB
    have hr' : i ∈ Region.ready md ops listed := by rw [hr]; simp
    have h0 : ops[i]? = some (l.getD i default) := by
      subst hops
      have : i < l.length := by simpa using hil
      simp [this]
    obtain ⟨hg, hw⟩ := h
    refine ⟨fun h1 => (by rw [h1] at hr'; cases hr'), fun j hj => ?_⟩
    rw [hr] at hj
    obtain rfl : j = i := by simpa using hj
    have hwd : Region.wanted (l.getD j default) (yielded ops a.tmps) = true := hg
    unfold wpOp
    simp only [h0, hwd, if_true]
    exact .inl (Oper.wp_mono (fun a' w' h' => ⟨h'.1, wpAnyM_planG hops hsel hs hc hn hQ r _ a' w' (inv.set hr' hin) h'.1 hB' h'.2⟩) hw)

/-- THE LAW. -/
theorem wp_region_planG {id : Nat} {a : Act} {w : World} {l : List Oper} (S : World → Prop) (n : Nat) (plan : List (Bool × Nat)) (hm : P.follows .mixedOrders = true) (hB : regionPlanB .any l.toArray n plan = true) (hS : S w.drew)
    (h : wpPlanG P l.toArray (NoPanic Q) S (fun a' w' => wpList P l.toArray (NoPanic Q) (l.drop n) a' w') (plan.map fun x => (x.1, l.getD x.2 default)) a w.drew) :
    (Code.region id l.toArray true).wp P Q a w := by
  refine wp_region_noPanic ?_
  simp only [regionPlanB, Bool.and_eq_true, decide_eq_true_eq] at hB
  obtain ⟨⟨⟨⟨⟨hsel, hn⟩, hs⟩, hc⟩, hlen⟩, hlex⟩ := hB
  have hn' : n < l.length := by simpa using hn
  have hdl : (l.drop n).length = l.toArray.size - n := by simp
  have inv0 : HeadInv .any l.toArray n (Array.replicate l.toArray.size false) :=
    ⟨by simp, fun j oj _ hl => (by rw [getD_replicate_false] at hl; cases hl), fun t _ ht => getD_in (by simpa using ht) (getD_replicate_false _ _)⟩
  have H := wpAnyM_planG (P := P) (md := .any) (Q := NoPanic Q) (S := S) (g := l.toArray.size - n) rfl hsel hs hc hn (fun c a a' w h => h.elim) plan _ a w.drew inv0 hS hlex h
  refine wp_region_any hm ?_
  have := wpAny_of_M (Q := NoPanic Q) (g := l.toArray.size - n) (fun listed a' w' hL => by
    have := wpAny_of_seq (md := .any) (Q' := NoPanic Q) (l.drop n) n listed a' w' (fun j => by simp [List.getElem?_drop]) (by rw [hdl]; exact hL.1) hL.2
    rwa [hdl] at this) _ _ _ _ H
  rw [hlen, show n + (l.toArray.size - n) = l.toArray.size by omega] at this
  exact this
theorem planG_take {L : Act → World → Prop} {o : Oper} {l : List (Bool × Oper)} {a : Act} {w : World} {v : Value} (hg : Region.wanted o (yielded ops a.tmps) = true) (hy : ∀ w, S w → (execOp a.eval o).run P w = .ok (.value v) w) (h : wpPlanG P ops Q S L l (a.put o.dst v) w) : wpPlanG P ops Q S L ((true, o) :: l) a w :=
  ⟨v, .inl ⟨hg, hy⟩, h⟩
theorem planG_skip {L : Act → World → Prop} {o : Oper} {l : List (Bool × Oper)} {a : Act} {w : World} (hg : Region.wanted o (yielded ops a.tmps) = false) (h : wpPlanG P ops Q S L l (a.put o.dst undef) w) : wpPlanG P ops Q S L ((true, o) :: l) a w :=
  ⟨undef, .inr ⟨hg, rfl⟩, h⟩
theorem planG_run {L : Act → World → Prop} {o : Oper} {l : List (Bool × Oper)} {a : Act} {w : World} (hg : Region.wanted o (yielded ops a.tmps) = true) (h : ∀ K : Act → World → Prop, Hid (∀ a' w', S w' → wpPlanG P ops Q S L l a' w' → K a' w') → o.wp P a w K Q) : wpPlanG P ops Q S L ((false, o) :: l) a w :=
  ⟨hg, h _ fun _ _ h1 h2 => ⟨h1, h2⟩⟩
theorem planG_nil {L : Act → World → Prop} {a : Act} {w : World} (h : L a w) : wpPlanG P ops Q S L [] a w := h
end

end Go.Proofs.YtimpjlnbbdfehaaGreatDoor
namespace Go.Proofs.YtimpjlnbbdfehaaGreatDoor
open Go.RowKit Go.Shelf Go.Lib Go.Sort
set_option linter.unusedVariables false
attribute [local go_sem ↓] shr_32_1 shl_32_1 shr_32_2 shl_32_2 shr_32_3 shl_32_3 shr_32_4 shl_32_4 shr_32_5 shl_32_5 shr_32_6 shl_32_6 shr_32_7 shl_32_7 shr_32_8 shl_32_8 shr_32_9 shl_32_9 shr_32_10 shl_32_10 shr_32_11 shl_32_11 shr_32_12 shl_32_12 shr_32_13 shl_32_13 shr_32_14 shl_32_14 shr_32_15 shl_32_15 shr_32_16 shl_32_16 shr_32_17 shl_32_17 shr_32_18 shl_32_18 shr_32_19 shl_32_19 shr_32_20 shl_32_20 shr_32_21 shl_32_21 shr_32_22 shl_32_22 shr_32_23 shl_32_23 shr_32_24 shl_32_24 shr_32_25 shl_32_25 shr_32_26 shl_32_26 shr_32_27 shl_32_27 shr_32_28 shl_32_28 shr_32_29 shl_32_29 shr_32_30 shl_32_30 shr_32_31 shl_32_31 shr_64_3 shl_64_3 shr_64_7 shl_64_7 shr_64_8 shl_64_8 shr_64_16 shl_64_16 shr_64_24 shl_64_24 shr_64_32 shl_64_32 shr_64_40 shl_64_40 shr_64_48 shl_64_48 shr_64_56 shl_64_56
attribute [local go_sem] add_u32 add_u64 and_u8 or_u8 xor_u8 and_u32 or_u32 xor_u32 and_u64 or_u64 xor_u64 conv_32_8 conv_64_8 conv_64_32 conv_8_32 conv_8_64 conv_32_64

theorem below_only {B : Nat} {a b c : World} {S : List Nat} (h : Below B a b) (hB : B ≤ a.heap.size) (k : Only b c S) (hS : ∀ y ∈ S, B ≤ y) : Below B a c :=
  ⟨k.os.trans h.os, k.tape.trans h.tape, k.output.trans h.output, Nat.le_trans h.size k.size, fun i hi => (k.block i (Nat.lt_of_lt_of_le hi (Nat.le_trans hB h.size)) (fun hm => by have := hS i hm; omega)).trans (h.block i hi)⟩
def getF (s : ByteArray) : Int × ByteArray × ByteArray × Bool :=
  let s1 := takeS s 0 1
  let e1 := takeE s 0 1
  let n := rnumF 4096 s1 e1
  let a := rtextF 32 n.2.1 n.2.2
  let d := rtextF 400 a.2.1 a.2.2
  ((n.1.toNat : Int) - 1, a.1, d.1, decide (takeB s 0 1 = markB) && decide (endE d.2.1 d.2.2 = 0) && decide (d.1 ≠ ⟨#[]⟩) && (decide ((n.1.toNat : Int) - 1 < 0) == decide (a.1 = ⟨#[]⟩)))
theorem str_mark (b : ByteArray) : (b.toList == markB.toList) = decide (b = markB) := by
  rw [Bool.eq_iff_iff, beq_iff_eq, decide_eq_true_eq, Lib.toList_data, Lib.toList_data]
  constructor
  · intro h
    exact ByteArray.ext (Array.toList_inj.1 h)
  · rintro rfl
    rfl
theorem str_nil (b : ByteArray) : b.toList.isEmpty = decide (b = ⟨#[]⟩) := by
  by_cases h : b = ⟨#[]⟩
  · rw [h]; simp
  · rw [str_full h]; simp [h]
set_option maxHeartbeats 8000000 in
set_option maxRecDepth 100000 in
theorem get_ok (s : ByteArray) (hs : s.size ≤ 1000000) (w : World) (hw : 0 < w.heap.size) :
    Calls Tryz.prog 128 #[.string s] w fun e w' => e = .returned (.tuple #[.agg #[.int .i64 (getF s).1, .string (getF s).2.1, .string (getF s).2.2.1], .bool (getF s).2.2.2]) ∧ Below w.heap.size w w' := by
  have hs1 : (takeS s 0 1).size ≤ 1000000 := Nat.le_trans (takeS_size s 0 1) hs
  have hs2 : (rnumF 4096 (takeS s 0 1) (takeE s 0 1)).2.1.size ≤ 1000000 := Nat.le_trans (rnum_rest _ _ _ _ _ _) hs1
  have hn1 : (rnumF 4096 (takeS s 0 1) (takeE s 0 1)).1.toNat ≤ 4096 := rnum_le 4096 10 0 0 _ _
  have HR := Lib.hid (fun (w1 : World) => read_ok s w1)
  have HB := Lib.hid (fun (g : Nat) (w1 : World) (h : Rd w1 g s 0) => bytes_ok g s 0 1 hs (by decide) (by decide) w1 h)
  have HN := Lib.hid (fun (g : Nat) (w1 : World) (h : Rd w1 g (takeS s 0 1) (takeE s 0 1)) => rnum_ok 4096 g _ _ hs1 w1 h)
  have HG : Hid (getF s = (((rnumF 4096 (takeS s 0 1) (takeE s 0 1)).1.toNat : Int) - 1, (rtextF 32 (rnumF 4096 (takeS s 0 1) (takeE s 0 1)).2.1 (rnumF 4096 (takeS s 0 1) (takeE s 0 1)).2.2).1, _, _)) := rfl
  rw [HG.out]
  clear HG
  generalize rnumF 4096 (takeS s 0 1) (takeE s 0 1) = r1 at *
  obtain ⟨n1, s2, e2⟩ := r1
  dsimp only at *
  have HT1 := Lib.hid (fun (g : Nat) (w1 : World) (h : Rd w1 g s2 e2) => rtext_ok 32 (by decide) g s2 e2 hs2 w1 h)
  have hs3 : (rtextF 32 s2 e2).2.1.size ≤ 1000000 := Nat.le_trans (takeS_size _ _ _) (Nat.le_trans (rnum_rest _ _ _ _ _ _) hs2)
  generalize rtextF 32 s2 e2 = r2 at *
  obtain ⟨sm, s3, e3⟩ := r2
  dsimp only at *
  have HT2 := Lib.hid (fun (g : Nat) (w1 : World) (h : Rd w1 g s3 e3) => rtext_ok 400 (by decide) g s3 e3 hs3 w1 h)
  generalize rtextF 400 s3 e3 = r3 at *
  obtain ⟨dt, s4, e4⟩ := r3
  dsimp only at *
  generalize takeB s 0 1 = b1 at *
  generalize takeS s 0 1 = s1 at *
  generalize takeE s 0 1 = e1 at *
  obtain ⟨pl, hpl⟩ : ∃ pl : Int, pl = (n1.toNat : Int) - 1 := ⟨_, rfl⟩
  have hc1 : IntKind.i64.wrap (n64 n1) = (n1.toNat : Int) := by rw [n64_u]; exact wrap_in _ (by omega) (by omega)
  have hc1' : wrap64 (n64 n1) = (n1.toNat : Int) := by rw [n64_u]; exact w64_small _ (by omega) (by omega)
  have hc2 : IntKind.i64.wrap ((n1.toNat : Int) - 1) = pl := by rw [hpl]; exact wrap_in _ (by omega) (by omega)
  have hc2' : wrap64 ((n1.toNat : Int) - 1) = pl := by rw [hpl]; unfold wrap64; omega
  rw [← hpl]
  clear hpl hs1 hs2 hs3 hs
  generalize n1.toNat = nn at *
  have hmk : (b1.toList == [66]) = decide (b1 = markB) := by rw [← str_mark, show markB.toList = [66] by rw [Lib.toList_data]; rfl]
  have HZ : Hid (0 < w.heap.size) := hw
  have HA2 : Hid (Blk (w.alloc (.cells #[.int .i64 0, .string ⟨#[]⟩, .string ⟨#[]⟩] 163)) w.heap.size 163 #[.int .i64 0, .string ⟨#[]⟩, .string ⟨#[]⟩]) := Blk.new w 163 _
  have HO2 : Hid (Below w.heap.size w (w.alloc (.cells #[.int .i64 0, .string ⟨#[]⟩, .string ⟨#[]⟩] 163))) := (Below.refl _ _).alloc (Nat.le_refl _) _
  clear hw
  unfold rdP at *
  go_enter Tryz.func128, Tryz.ntmps128
  go_wp2_with fail
  generalize hw2 : w.alloc (.cells #[.int .i64 0, .string ⟨#[]⟩, .string ⟨#[]⟩] 163) = w2 at *
  have HS2 : Hid (w2.heap.size = w.heap.size + 1) := by rw [← hw2]; show _ = _; simp
  clear hw2
  refine (HR.out w2).mono ?_
  rintro x w3 ⟨rfl, hr, hb⟩
  have HR3 := Lib.hid hr
  have HA3 : Hid (Blk w3 w.heap.size 163 #[.int .i64 0, .string ⟨#[]⟩, .string ⟨#[]⟩]) := (hb.block _ HA2.out.lt).trans HA2.out
  have HO3 : Hid (Below w.heap.size w w3) := HO2.out.trans (hb.mono (by rw [HS2.out]; omega))
  have HGN : Hid (w.heap.size < w2.heap.size) := by rw [HS2.out]; show _ < _; omega
  clear hr hb HR
  generalize w2.heap.size = g at *
  have HBB := Lib.hid (HB.out g w3 HR3.out)
  go_wp2_with fail
  refine HBB.out.mono ?_
  rintro x w4 ⟨rfl, hr, ho⟩
  have HN4 := Lib.hid (HN.out g w4 hr)
  have HA4 : Hid (Blk w4 w.heap.size 163 #[.int .i64 0, .string ⟨#[]⟩, .string ⟨#[]⟩]) := ho.blk HA3.out (by have := HGN.out; simp; omega)
  have HO4 : Hid (Below w.heap.size w w4) := below_only HO3.out (Nat.le_refl _) ho (by have := HGN.out; intro y hy; rw [List.mem_singleton] at hy; omega)
  clear hr ho HBB HB HN
  go_wp2_with fail
  refine HN4.out.mono ?_
  rintro x w5 ⟨rfl, hr, ho⟩
  have HT5 := Lib.hid (HT1.out g w5 hr)
  have HA5 : Hid (Blk w5 w.heap.size 163 #[.int .i64 0, .string ⟨#[]⟩, .string ⟨#[]⟩]) := ho.blk HA4.out (by have := HGN.out; simp; omega)
  have HO5 : Hid (Below w.heap.size w w5) := below_only HO4.out (Nat.le_refl _) ho (by have := HGN.out; intro y hy; rw [List.mem_singleton] at hy; omega)
  clear hr ho HN4 HT1
  go_wp2_with fail
  refine HT5.out.mono ?_
  rintro x w6 ⟨rfl, hr, ho⟩
  have HT6 := Lib.hid (HT2.out g w6 hr)
  have HA6 : Hid (Blk w6 w.heap.size 163 #[.int .i64 0, .string ⟨#[]⟩, .string ⟨#[]⟩]) := ho.blk HA5.out (by have := HGN.out; simp; omega)
  have HO6 : Hid (Below w.heap.size w w6) := below_only HO5.out (Nat.le_refl _) ho (by have := HGN.out; intro y hy; rw [List.mem_singleton] at hy; omega)
  clear hr ho HT5 HT2
  go_wp2_with fail
  refine HT6.out.mono ?_
  rintro x w7 ⟨rfl, hr, ho⟩
  have HR7 := Lib.hid hr
  have HA7 : Hid (Blk w7 w.heap.size 163 #[.int .i64 0, .string ⟨#[]⟩, .string ⟨#[]⟩]) := ho.blk HA6.out (by have := HGN.out; simp; omega)
  have HO7 : Hid (Below w.heap.size w w7) := below_only HO6.out (Nat.le_refl _) ho (by have := HGN.out; intro y hy; rw [List.mem_singleton] at hy; omega)
  clear hr ho HT6
  have HA8 : Hid (Blk (w7.alloc (.cells #[.int .i64 0, .string ⟨#[]⟩, .string ⟨#[]⟩] 163)) w7.heap.size 163 #[.int .i64 0, .string ⟨#[]⟩, .string ⟨#[]⟩]) := Blk.new w7 163 _
  have HB9 : Hid (Blk ((w7.alloc (.cells #[.int .i64 0, .string ⟨#[]⟩, .string ⟨#[]⟩] 163)).setRow w7.heap.size #[.int .i64 pl, .string sm, .string dt]) w7.heap.size 163 #[.int .i64 pl, .string sm, .string dt]) := (Blk.new w7 163 _).row _
  have HO9 : Hid (Only w7 ((w7.alloc (.cells #[.int .i64 0, .string ⟨#[]⟩, .string ⟨#[]⟩] 163)).setRow w7.heap.size #[.int .i64 pl, .string sm, .string dt]) []) := only_newRow ((Only.refl w7 []).alloc _) (Nat.le_refl _) _
  go_wp2_with (first
    | (refine wpList_store_row rfl 163 (.tmp 6) (.tmp 21) (by rfl) w7.heap.size #[.int .i64 pl, .string sm, .string dt] (by rfl) (by rfl) 163 _ HA8.out info163 (by rfl) (by simp [Value.oneCell']) ?_; generalize (w7.alloc (.cells #[.int .i64 0, .string ⟨#[]⟩, .string ⟨#[]⟩] 163)).setRow w7.heap.size #[.int .i64 pl, .string sm, .string dt] = w9 at *)
    | fail)
  have HA9 : Hid (Blk w9.drew w.heap.size 163 #[.int .i64 0, .string ⟨#[]⟩, .string ⟨#[]⟩]) := (HO9.out.blk HA7.out (by simp)).drewN 1
  have HR9 : Hid (Rd w9.drew g s4 e4) := (HO9.out.blk HR7.out (by simp)).drewN 1
  have HO10 : Hid (Below w.heap.size w w9.drew) := below_drewN (below_only HO7.out (Nat.le_refl _) HO9.out (fun _ hm => by cases hm)) 1
  have HNE : Hid (w7.heap.size ≠ w.heap.size) := by have := HA7.out.lt; show _ ≠ _; omega
  have HNG : Hid (w7.heap.size ∉ [g]) := by have := Blk.lt HR7.out; show ¬ (w7.heap.size ∈ [g]); rw [List.mem_singleton]; omega
  have HBD : Hid (Blk w9.drew w7.heap.size 163 #[.int .i64 pl, .string sm, .string dt]) := HB9.out.drewN 1
  clear HA8 HB9 HO9 HA7 HR7 HO7
  generalize w7.heap.size = b6 at *
  by_cases hb1 : b1 = markB
  · have HV1 : Hid (decide (b1 = markB) = true) := decide_eq_true hb1
    rw [HV1.out]
    clear hb1 hmk
    by_cases he0 : endE s4 e4 = 0
    · have HV2 : Hid (decide (endE s4 e4 = 0) = true) := decide_eq_true he0
      have hq2 : (endE s4 e4 == 0) = true := by simp [he0]
      clear he0
      by_cases hd0 : dt = ⟨#[]⟩
      · have HV3 : Hid (decide (dt ≠ ⟨#[]⟩) = false) := decide_eq_false (fun h => h hd0)
        have hq3 : dt.toList.isEmpty = true := by rw [str_nil]; exact decide_eq_true hd0
        clear hd0
        refine wp_region_planG (fun w' => w'.cell? ⟨b6, 0, none⟩ = some (.int .i64 pl) ∧ w'.cell? ⟨b6, 1, none⟩ = some (.string sm) ∧ w'.cell? ⟨b6, 2, none⟩ = some (.string dt)) 24 [(true, 0), (true, 1), (true, 2), (true, 3), (false, 4), (true, 5), (true, 6), (true, 7), (true, 8), (true, 9), (true, 10), (true, 11), (true, 12), (true, 13), (true, 14), (true, 15), (true, 16), (true, 17), (true, 18), (true, 19), (true, 20), (true, 21), (true, 22), (false, 23)] (by kernel_rfl) (by kernel_rfl) ⟨HBD.out.cell 0, HBD.out.cell 1, HBD.out.cell 2⟩ ?_
        simp only [List.map_cons, List.map_nil, List.getD_cons_zero, List.getD_cons_succ, List.drop_succ_cons, List.drop_zero]
        (refine planG_take (v := ?_) (by rfl) ?_ ?_; rotate_left; (rintro wS ⟨hS1, hS2, hS3⟩; (try dsimp only at hS1 hS2 hS3); go_simp; try with_reducible rfl); simp only [Act.put, List.setIfInBounds_toArray, List.set_cons_zero, List.set_cons_succ])
        (refine planG_take (v := ?_) (by rfl) ?_ ?_; rotate_left; (rintro wS ⟨hS1, hS2, hS3⟩; (try dsimp only at hS1 hS2 hS3); go_simp; try with_reducible rfl); simp only [Act.put, List.setIfInBounds_toArray, List.set_cons_zero, List.set_cons_succ])
        (refine planG_take (v := ?_) (by rfl) ?_ ?_; rotate_left; (rintro wS ⟨hS1, hS2, hS3⟩; (try dsimp only at hS1 hS2 hS3); go_simp; try with_reducible rfl); simp only [Act.put, List.setIfInBounds_toArray, List.set_cons_zero, List.set_cons_succ])
        (refine planG_take (v := ?_) (by rfl) ?_ ?_; rotate_left; (rintro wS ⟨hS1, hS2, hS3⟩; (try dsimp only at hS1 hS2 hS3); go_simp; try with_reducible rfl); simp only [Act.put, List.setIfInBounds_toArray, List.set_cons_zero, List.set_cons_succ])
        refine planG_run (by rfl) (fun K hK => ?_)
        go_simp
        refine (rend_ok g s4 e4 w9.drew HR9.out).mono ?_
        rintro x w10 ⟨rfl, ho⟩
        have HA10 : Hid (Blk w10 w.heap.size 163 #[.int .i64 0, .string ⟨#[]⟩, .string ⟨#[]⟩]) := ho.blk HA9.out (by have := HGN.out; simp; omega)
        have HBD2 : Hid (Blk w10 b6 163 #[.int .i64 pl, .string sm, .string dt]) := ho.blk HBD.out HNG.out
        have HO11 : Hid (Below w.heap.size w w10) := below_only HO10.out (Nat.le_refl _) ho (by have := HGN.out; intro y hy; rw [List.mem_singleton] at hy; omega)
        clear ho
        refine hK.out _ _ ⟨HBD2.out.cell 0, HBD2.out.cell 1, HBD2.out.cell 2⟩ ?_
        clear hK K
        try simp only [Act.put, List.setIfInBounds_toArray, List.set_cons_zero, List.set_cons_succ]
        (refine planG_take (v := ?_) (by rfl) ?_ ?_; rotate_left; (rintro wS ⟨hS1, hS2, hS3⟩; (try dsimp only at hS1 hS2 hS3); go_simp; try with_reducible rfl); simp only [Act.put, List.setIfInBounds_toArray, List.set_cons_zero, List.set_cons_succ])
        (refine planG_take (v := ?_) (by rfl) ?_ ?_; rotate_left; (rintro wS ⟨hS1, hS2, hS3⟩; (try dsimp only at hS1 hS2 hS3); go_simp; try with_reducible rfl); simp only [Act.put, List.setIfInBounds_toArray, List.set_cons_zero, List.set_cons_succ])
        (refine planG_take (v := ?_) (by rfl) ?_ ?_; rotate_left; (rintro wS ⟨hS1, hS2, hS3⟩; (try dsimp only at hS1 hS2 hS3); go_simp; try with_reducible rfl); simp only [Act.put, List.setIfInBounds_toArray, List.set_cons_zero, List.set_cons_succ])
        (refine planG_take (v := ?_) (by rfl) ?_ ?_; rotate_left; (rintro wS ⟨hS1, hS2, hS3⟩; (try dsimp only at hS1 hS2 hS3); go_simp; try with_reducible rfl); simp only [Act.put, List.setIfInBounds_toArray, List.set_cons_zero, List.set_cons_succ])
        (refine planG_take (v := ?_) (by rfl) ?_ ?_; rotate_left; (rintro wS ⟨hS1, hS2, hS3⟩; (try dsimp only at hS1 hS2 hS3); go_simp; try with_reducible rfl); simp only [Act.put, List.setIfInBounds_toArray, List.set_cons_zero, List.set_cons_succ])
        (refine planG_take (v := ?_) (by rfl) ?_ ?_; rotate_left; (rintro wS ⟨hS1, hS2, hS3⟩; (try dsimp only at hS1 hS2 hS3); go_simp; try with_reducible rfl); simp only [Act.put, List.setIfInBounds_toArray, List.set_cons_zero, List.set_cons_succ])
        (refine planG_take (v := ?_) (by rfl) ?_ ?_; rotate_left; (rintro wS ⟨hS1, hS2, hS3⟩; (try dsimp only at hS1 hS2 hS3); go_simp; try with_reducible rfl); simp only [Act.put, List.setIfInBounds_toArray, List.set_cons_zero, List.set_cons_succ])
        (refine planG_take (v := ?_) (by rfl) ?_ ?_; rotate_left; (rintro wS ⟨hS1, hS2, hS3⟩; (try dsimp only at hS1 hS2 hS3); go_simp; try with_reducible rfl); simp only [Act.put, List.setIfInBounds_toArray, List.set_cons_zero, List.set_cons_succ])
        (refine planG_skip (by rfl) ?_; simp only [Act.put, List.setIfInBounds_toArray, List.set_cons_zero, List.set_cons_succ])
        (refine planG_skip (by rfl) ?_; simp only [Act.put, List.setIfInBounds_toArray, List.set_cons_zero, List.set_cons_succ])
        (refine planG_skip (by rfl) ?_; simp only [Act.put, List.setIfInBounds_toArray, List.set_cons_zero, List.set_cons_succ])
        (refine planG_skip (by rfl) ?_; simp only [Act.put, List.setIfInBounds_toArray, List.set_cons_zero, List.set_cons_succ])
        (refine planG_skip (by rfl) ?_; simp only [Act.put, List.setIfInBounds_toArray, List.set_cons_zero, List.set_cons_succ])
        (refine planG_skip (by rfl) ?_; simp only [Act.put, List.setIfInBounds_toArray, List.set_cons_zero, List.set_cons_succ])
        (refine planG_skip (by rfl) ?_; simp only [Act.put, List.setIfInBounds_toArray, List.set_cons_zero, List.set_cons_succ])
        (refine planG_skip (by rfl) ?_; simp only [Act.put, List.setIfInBounds_toArray, List.set_cons_zero, List.set_cons_succ])
        (refine planG_skip (by rfl) ?_; simp only [Act.put, List.setIfInBounds_toArray, List.set_cons_zero, List.set_cons_succ])
        (refine planG_take (v := ?_) (by rfl) ?_ ?_; rotate_left; (rintro wS ⟨hS1, hS2, hS3⟩; (try dsimp only at hS1 hS2 hS3); go_simp; try with_reducible rfl); simp only [Act.put, List.setIfInBounds_toArray, List.set_cons_zero, List.set_cons_succ])
        refine planG_run (by rfl) (fun K hK => ?_)
        refine wp_store_row 163 (.tmp 2) (.tmp 22) rfl w.heap.size #[.int .i64 pl, .string sm, .string dt] (by rfl) (by rfl) 163 _ HA10.out info163 (by rfl) (by simp [Value.oneCell']) ?_
        refine hK.out _ _ ⟨(HBD2.out.farRow HNE.out _).cell 0, (HBD2.out.farRow HNE.out _).cell 1, (HBD2.out.farRow HNE.out _).cell 2⟩ ?_
        clear hK K
        try simp only [Act.put, List.setIfInBounds_toArray, List.set_cons_zero, List.set_cons_succ]
        refine planG_nil ?_
        go_wp2_with fail
        refine NoPanic.normal ?_
        go_wp2_with fail
        refine bodyPost_ret (results_cell_tmp (fn := Tryz.f128) rfl _ _ w.heap.size #[.int .i64 pl, .string sm, .string dt] (by rfl) (run_loadVar_row _ _ _ _ _ _ _ (HA10.out.row _) Tryz.underlying163 rfl info163)) rfl ?_
        exact ⟨by rw [HV1.out, HV2.out, HV3.out]; rfl, below_only HO11.out (Nat.le_refl _) (only_setRow (Only.refl _ [w.heap.size]) (List.mem_singleton.2 rfl) _) (fun y hy => by rw [List.mem_singleton] at hy; omega)⟩
      · have HV3 : Hid (decide (dt ≠ ⟨#[]⟩) = true) := decide_eq_true hd0
        have hq3 : dt.toList.isEmpty = false := by rw [str_nil]; exact decide_eq_false hd0
        have hq4 := str_nil sm
        clear hd0
        refine wp_region_planG (fun w' => w'.cell? ⟨b6, 0, none⟩ = some (.int .i64 pl) ∧ w'.cell? ⟨b6, 1, none⟩ = some (.string sm) ∧ w'.cell? ⟨b6, 2, none⟩ = some (.string dt)) 24 [(true, 0), (true, 1), (true, 2), (true, 3), (false, 4), (true, 5), (true, 6), (true, 7), (true, 8), (true, 9), (true, 10), (true, 11), (true, 12), (true, 13), (true, 14), (true, 15), (true, 16), (true, 17), (true, 18), (true, 19), (true, 20), (true, 21), (true, 22), (false, 23)] (by kernel_rfl) (by kernel_rfl) ⟨HBD.out.cell 0, HBD.out.cell 1, HBD.out.cell 2⟩ ?_
        simp only [List.map_cons, List.map_nil, List.getD_cons_zero, List.getD_cons_succ, List.drop_succ_cons, List.drop_zero]
        (refine planG_take (v := ?_) (by rfl) ?_ ?_; rotate_left; (rintro wS ⟨hS1, hS2, hS3⟩; (try dsimp only at hS1 hS2 hS3); go_simp; try with_reducible rfl); simp only [Act.put, List.setIfInBounds_toArray, List.set_cons_zero, List.set_cons_succ])
        (refine planG_take (v := ?_) (by rfl) ?_ ?_; rotate_left; (rintro wS ⟨hS1, hS2, hS3⟩; (try dsimp only at hS1 hS2 hS3); go_simp; try with_reducible rfl); simp only [Act.put, List.setIfInBounds_toArray, List.set_cons_zero, List.set_cons_succ])
        (refine planG_take (v := ?_) (by rfl) ?_ ?_; rotate_left; (rintro wS ⟨hS1, hS2, hS3⟩; (try dsimp only at hS1 hS2 hS3); go_simp; try with_reducible rfl); simp only [Act.put, List.setIfInBounds_toArray, List.set_cons_zero, List.set_cons_succ])
        (refine planG_take (v := ?_) (by rfl) ?_ ?_; rotate_left; (rintro wS ⟨hS1, hS2, hS3⟩; (try dsimp only at hS1 hS2 hS3); go_simp; try with_reducible rfl); simp only [Act.put, List.setIfInBounds_toArray, List.set_cons_zero, List.set_cons_succ])
        refine planG_run (by rfl) (fun K hK => ?_)
        go_simp
        refine (rend_ok g s4 e4 w9.drew HR9.out).mono ?_
        rintro x w10 ⟨rfl, ho⟩
        have HA10 : Hid (Blk w10 w.heap.size 163 #[.int .i64 0, .string ⟨#[]⟩, .string ⟨#[]⟩]) := ho.blk HA9.out (by have := HGN.out; simp; omega)
        have HBD2 : Hid (Blk w10 b6 163 #[.int .i64 pl, .string sm, .string dt]) := ho.blk HBD.out HNG.out
        have HO11 : Hid (Below w.heap.size w w10) := below_only HO10.out (Nat.le_refl _) ho (by have := HGN.out; intro y hy; rw [List.mem_singleton] at hy; omega)
        clear ho
        refine hK.out _ _ ⟨HBD2.out.cell 0, HBD2.out.cell 1, HBD2.out.cell 2⟩ ?_
        clear hK K
        try simp only [Act.put, List.setIfInBounds_toArray, List.set_cons_zero, List.set_cons_succ]
        (refine planG_take (v := ?_) (by rfl) ?_ ?_; rotate_left; (rintro wS ⟨hS1, hS2, hS3⟩; (try dsimp only at hS1 hS2 hS3); go_simp; try with_reducible rfl); simp only [Act.put, List.setIfInBounds_toArray, List.set_cons_zero, List.set_cons_succ])
        (refine planG_take (v := ?_) (by rfl) ?_ ?_; rotate_left; (rintro wS ⟨hS1, hS2, hS3⟩; (try dsimp only at hS1 hS2 hS3); go_simp; try with_reducible rfl); simp only [Act.put, List.setIfInBounds_toArray, List.set_cons_zero, List.set_cons_succ])
        (refine planG_take (v := ?_) (by rfl) ?_ ?_; rotate_left; (rintro wS ⟨hS1, hS2, hS3⟩; (try dsimp only at hS1 hS2 hS3); go_simp; try with_reducible rfl); simp only [Act.put, List.setIfInBounds_toArray, List.set_cons_zero, List.set_cons_succ])
        (refine planG_take (v := ?_) (by rfl) ?_ ?_; rotate_left; (rintro wS ⟨hS1, hS2, hS3⟩; (try dsimp only at hS1 hS2 hS3); go_simp; try with_reducible rfl); simp only [Act.put, List.setIfInBounds_toArray, List.set_cons_zero, List.set_cons_succ])
        (refine planG_take (v := ?_) (by rfl) ?_ ?_; rotate_left; (rintro wS ⟨hS1, hS2, hS3⟩; (try dsimp only at hS1 hS2 hS3); go_simp; try with_reducible rfl); simp only [Act.put, List.setIfInBounds_toArray, List.set_cons_zero, List.set_cons_succ])
        (refine planG_take (v := ?_) (by rfl) ?_ ?_; rotate_left; (rintro wS ⟨hS1, hS2, hS3⟩; (try dsimp only at hS1 hS2 hS3); go_simp; try with_reducible rfl); simp only [Act.put, List.setIfInBounds_toArray, List.set_cons_zero, List.set_cons_succ])
        (refine planG_take (v := ?_) (by rfl) ?_ ?_; rotate_left; (rintro wS ⟨hS1, hS2, hS3⟩; (try dsimp only at hS1 hS2 hS3); go_simp; try with_reducible rfl); simp only [Act.put, List.setIfInBounds_toArray, List.set_cons_zero, List.set_cons_succ])
        (refine planG_take (v := ?_) (by rfl) ?_ ?_; rotate_left; (rintro wS ⟨hS1, hS2, hS3⟩; (try dsimp only at hS1 hS2 hS3); go_simp; try with_reducible rfl); simp only [Act.put, List.setIfInBounds_toArray, List.set_cons_zero, List.set_cons_succ])
        (refine planG_take (v := ?_) (by rfl) ?_ ?_; rotate_left; (rintro wS ⟨hS1, hS2, hS3⟩; (try dsimp only at hS1 hS2 hS3); go_simp; try with_reducible rfl); simp only [Act.put, List.setIfInBounds_toArray, List.set_cons_zero, List.set_cons_succ])
        (refine planG_take (v := ?_) (by rfl) ?_ ?_; rotate_left; (rintro wS ⟨hS1, hS2, hS3⟩; (try dsimp only at hS1 hS2 hS3); go_simp; try with_reducible rfl); simp only [Act.put, List.setIfInBounds_toArray, List.set_cons_zero, List.set_cons_succ])
        (refine planG_take (v := ?_) (by rfl) ?_ ?_; rotate_left; (rintro wS ⟨hS1, hS2, hS3⟩; (try dsimp only at hS1 hS2 hS3); go_simp; try with_reducible rfl); simp only [Act.put, List.setIfInBounds_toArray, List.set_cons_zero, List.set_cons_succ])
        (refine planG_take (v := ?_) (by rfl) ?_ ?_; rotate_left; (rintro wS ⟨hS1, hS2, hS3⟩; (try dsimp only at hS1 hS2 hS3); go_simp; try with_reducible rfl); simp only [Act.put, List.setIfInBounds_toArray, List.set_cons_zero, List.set_cons_succ])
        (refine planG_take (v := ?_) (by rfl) ?_ ?_; rotate_left; (rintro wS ⟨hS1, hS2, hS3⟩; (try dsimp only at hS1 hS2 hS3); go_simp; try with_reducible rfl); simp only [Act.put, List.setIfInBounds_toArray, List.set_cons_zero, List.set_cons_succ])
        (refine planG_take (v := ?_) (by rfl) ?_ ?_; rotate_left; (rintro wS ⟨hS1, hS2, hS3⟩; (try dsimp only at hS1 hS2 hS3); go_simp; try with_reducible rfl); simp only [Act.put, List.setIfInBounds_toArray, List.set_cons_zero, List.set_cons_succ])
        (refine planG_take (v := ?_) (by rfl) ?_ ?_; rotate_left; (rintro wS ⟨hS1, hS2, hS3⟩; (try dsimp only at hS1 hS2 hS3); go_simp; try with_reducible rfl); simp only [Act.put, List.setIfInBounds_toArray, List.set_cons_zero, List.set_cons_succ])
        (refine planG_take (v := ?_) (by rfl) ?_ ?_; rotate_left; (rintro wS ⟨hS1, hS2, hS3⟩; (try dsimp only at hS1 hS2 hS3); go_simp; try with_reducible rfl); simp only [Act.put, List.setIfInBounds_toArray, List.set_cons_zero, List.set_cons_succ])
        (refine planG_take (v := ?_) (by rfl) ?_ ?_; rotate_left; (rintro wS ⟨hS1, hS2, hS3⟩; (try dsimp only at hS1 hS2 hS3); go_simp; try with_reducible rfl); simp only [Act.put, List.setIfInBounds_toArray, List.set_cons_zero, List.set_cons_succ])
        (refine planG_take (v := ?_) (by rfl) ?_ ?_; rotate_left; (rintro wS ⟨hS1, hS2, hS3⟩; (try dsimp only at hS1 hS2 hS3); go_simp; try with_reducible rfl); simp only [Act.put, List.setIfInBounds_toArray, List.set_cons_zero, List.set_cons_succ])
        refine planG_run (by rfl) (fun K hK => ?_)
        refine wp_store_row 163 (.tmp 2) (.tmp 22) rfl w.heap.size #[.int .i64 pl, .string sm, .string dt] (by rfl) (by rfl) 163 _ HA10.out info163 (by rfl) (by simp [Value.oneCell']) ?_
        refine hK.out _ _ ⟨(HBD2.out.farRow HNE.out _).cell 0, (HBD2.out.farRow HNE.out _).cell 1, (HBD2.out.farRow HNE.out _).cell 2⟩ ?_
        clear hK K
        try simp only [Act.put, List.setIfInBounds_toArray, List.set_cons_zero, List.set_cons_succ]
        refine planG_nil ?_
        go_wp2_with fail
        refine NoPanic.normal ?_
        go_wp2_with fail
        refine bodyPost_ret (results_cell_tmp (fn := Tryz.f128) rfl _ _ w.heap.size #[.int .i64 pl, .string sm, .string dt] (by rfl) (run_loadVar_row _ _ _ _ _ _ _ (HA10.out.row _) Tryz.underlying163 rfl info163)) rfl ?_
        exact ⟨by rw [HV1.out, HV2.out, HV3.out]; rfl, below_only HO11.out (Nat.le_refl _) (only_setRow (Only.refl _ [w.heap.size]) (List.mem_singleton.2 rfl) _) (fun y hy => by rw [List.mem_singleton] at hy; omega)⟩
    · have HV2 : Hid (decide (endE s4 e4 = 0) = false) := decide_eq_false he0
      have hq2 : (endE s4 e4 == 0) = false := by simp [he0]
      clear he0
      refine wp_region_planG (fun w' => w'.cell? ⟨b6, 0, none⟩ = some (.int .i64 pl) ∧ w'.cell? ⟨b6, 1, none⟩ = some (.string sm) ∧ w'.cell? ⟨b6, 2, none⟩ = some (.string dt)) 24 [(true, 0), (true, 1), (true, 2), (true, 3), (false, 4), (true, 5), (true, 6), (true, 7), (true, 8), (true, 9), (true, 10), (true, 11), (true, 12), (true, 13), (true, 14), (true, 15), (true, 16), (true, 17), (true, 18), (true, 19), (true, 20), (true, 21), (true, 22), (false, 23)] (by kernel_rfl) (by kernel_rfl) ⟨HBD.out.cell 0, HBD.out.cell 1, HBD.out.cell 2⟩ ?_
      simp only [List.map_cons, List.map_nil, List.getD_cons_zero, List.getD_cons_succ, List.drop_succ_cons, List.drop_zero]
      (refine planG_take (v := ?_) (by rfl) ?_ ?_; rotate_left; (rintro wS ⟨hS1, hS2, hS3⟩; (try dsimp only at hS1 hS2 hS3); go_simp; try with_reducible rfl); simp only [Act.put, List.setIfInBounds_toArray, List.set_cons_zero, List.set_cons_succ])
      (refine planG_take (v := ?_) (by rfl) ?_ ?_; rotate_left; (rintro wS ⟨hS1, hS2, hS3⟩; (try dsimp only at hS1 hS2 hS3); go_simp; try with_reducible rfl); simp only [Act.put, List.setIfInBounds_toArray, List.set_cons_zero, List.set_cons_succ])
      (refine planG_take (v := ?_) (by rfl) ?_ ?_; rotate_left; (rintro wS ⟨hS1, hS2, hS3⟩; (try dsimp only at hS1 hS2 hS3); go_simp; try with_reducible rfl); simp only [Act.put, List.setIfInBounds_toArray, List.set_cons_zero, List.set_cons_succ])
      (refine planG_take (v := ?_) (by rfl) ?_ ?_; rotate_left; (rintro wS ⟨hS1, hS2, hS3⟩; (try dsimp only at hS1 hS2 hS3); go_simp; try with_reducible rfl); simp only [Act.put, List.setIfInBounds_toArray, List.set_cons_zero, List.set_cons_succ])
      refine planG_run (by rfl) (fun K hK => ?_)
      go_simp
      refine (rend_ok g s4 e4 w9.drew HR9.out).mono ?_
      rintro x w10 ⟨rfl, ho⟩
      have HA10 : Hid (Blk w10 w.heap.size 163 #[.int .i64 0, .string ⟨#[]⟩, .string ⟨#[]⟩]) := ho.blk HA9.out (by have := HGN.out; simp; omega)
      have HBD2 : Hid (Blk w10 b6 163 #[.int .i64 pl, .string sm, .string dt]) := ho.blk HBD.out HNG.out
      have HO11 : Hid (Below w.heap.size w w10) := below_only HO10.out (Nat.le_refl _) ho (by have := HGN.out; intro y hy; rw [List.mem_singleton] at hy; omega)
      clear ho
      refine hK.out _ _ ⟨HBD2.out.cell 0, HBD2.out.cell 1, HBD2.out.cell 2⟩ ?_
      clear hK K
      try simp only [Act.put, List.setIfInBounds_toArray, List.set_cons_zero, List.set_cons_succ]
      (refine planG_take (v := ?_) (by rfl) ?_ ?_; rotate_left; (rintro wS ⟨hS1, hS2, hS3⟩; (try dsimp only at hS1 hS2 hS3); go_simp; try with_reducible rfl); simp only [Act.put, List.setIfInBounds_toArray, List.set_cons_zero, List.set_cons_succ])
      (refine planG_take (v := ?_) (by rfl) ?_ ?_; rotate_left; (rintro wS ⟨hS1, hS2, hS3⟩; (try dsimp only at hS1 hS2 hS3); go_simp; try with_reducible rfl); simp only [Act.put, List.setIfInBounds_toArray, List.set_cons_zero, List.set_cons_succ])
      (refine planG_take (v := ?_) (by rfl) ?_ ?_; rotate_left; (rintro wS ⟨hS1, hS2, hS3⟩; (try dsimp only at hS1 hS2 hS3); go_simp; try with_reducible rfl); simp only [Act.put, List.setIfInBounds_toArray, List.set_cons_zero, List.set_cons_succ])
      (refine planG_skip (by rfl) ?_; simp only [Act.put, List.setIfInBounds_toArray, List.set_cons_zero, List.set_cons_succ])
      (refine planG_skip (by rfl) ?_; simp only [Act.put, List.setIfInBounds_toArray, List.set_cons_zero, List.set_cons_succ])
      (refine planG_skip (by rfl) ?_; simp only [Act.put, List.setIfInBounds_toArray, List.set_cons_zero, List.set_cons_succ])
      (refine planG_take (v := ?_) (by rfl) ?_ ?_; rotate_left; (rintro wS ⟨hS1, hS2, hS3⟩; (try dsimp only at hS1 hS2 hS3); go_simp; try with_reducible rfl); simp only [Act.put, List.setIfInBounds_toArray, List.set_cons_zero, List.set_cons_succ])
      (refine planG_take (v := ?_) (by rfl) ?_ ?_; rotate_left; (rintro wS ⟨hS1, hS2, hS3⟩; (try dsimp only at hS1 hS2 hS3); go_simp; try with_reducible rfl); simp only [Act.put, List.setIfInBounds_toArray, List.set_cons_zero, List.set_cons_succ])
      (refine planG_skip (by rfl) ?_; simp only [Act.put, List.setIfInBounds_toArray, List.set_cons_zero, List.set_cons_succ])
      (refine planG_skip (by rfl) ?_; simp only [Act.put, List.setIfInBounds_toArray, List.set_cons_zero, List.set_cons_succ])
      (refine planG_skip (by rfl) ?_; simp only [Act.put, List.setIfInBounds_toArray, List.set_cons_zero, List.set_cons_succ])
      (refine planG_skip (by rfl) ?_; simp only [Act.put, List.setIfInBounds_toArray, List.set_cons_zero, List.set_cons_succ])
      (refine planG_skip (by rfl) ?_; simp only [Act.put, List.setIfInBounds_toArray, List.set_cons_zero, List.set_cons_succ])
      (refine planG_skip (by rfl) ?_; simp only [Act.put, List.setIfInBounds_toArray, List.set_cons_zero, List.set_cons_succ])
      (refine planG_skip (by rfl) ?_; simp only [Act.put, List.setIfInBounds_toArray, List.set_cons_zero, List.set_cons_succ])
      (refine planG_skip (by rfl) ?_; simp only [Act.put, List.setIfInBounds_toArray, List.set_cons_zero, List.set_cons_succ])
      (refine planG_skip (by rfl) ?_; simp only [Act.put, List.setIfInBounds_toArray, List.set_cons_zero, List.set_cons_succ])
      (refine planG_take (v := ?_) (by rfl) ?_ ?_; rotate_left; (rintro wS ⟨hS1, hS2, hS3⟩; (try dsimp only at hS1 hS2 hS3); go_simp; try with_reducible rfl); simp only [Act.put, List.setIfInBounds_toArray, List.set_cons_zero, List.set_cons_succ])
      refine planG_run (by rfl) (fun K hK => ?_)
      refine wp_store_row 163 (.tmp 2) (.tmp 22) rfl w.heap.size #[.int .i64 pl, .string sm, .string dt] (by rfl) (by rfl) 163 _ HA10.out info163 (by rfl) (by simp [Value.oneCell']) ?_
      refine hK.out _ _ ⟨(HBD2.out.farRow HNE.out _).cell 0, (HBD2.out.farRow HNE.out _).cell 1, (HBD2.out.farRow HNE.out _).cell 2⟩ ?_
      clear hK K
      try simp only [Act.put, List.setIfInBounds_toArray, List.set_cons_zero, List.set_cons_succ]
      refine planG_nil ?_
      go_wp2_with fail
      refine NoPanic.normal ?_
      go_wp2_with fail
      refine bodyPost_ret (results_cell_tmp (fn := Tryz.f128) rfl _ _ w.heap.size #[.int .i64 pl, .string sm, .string dt] (by rfl) (run_loadVar_row _ _ _ _ _ _ _ (HA10.out.row _) Tryz.underlying163 rfl info163)) rfl ?_
      exact ⟨by rw [HV1.out, HV2.out]; rfl, below_only HO11.out (Nat.le_refl _) (only_setRow (Only.refl _ [w.heap.size]) (List.mem_singleton.2 rfl) _) (fun y hy => by rw [List.mem_singleton] at hy; omega)⟩
  · have HV1 : Hid (decide (b1 = markB) = false) := decide_eq_false hb1
    rw [HV1.out]
    clear hb1 hmk
    refine wp_region_planG (fun w' => w'.cell? ⟨b6, 0, none⟩ = some (.int .i64 pl) ∧ w'.cell? ⟨b6, 1, none⟩ = some (.string sm) ∧ w'.cell? ⟨b6, 2, none⟩ = some (.string dt)) 24 [(true, 0), (true, 1), (true, 2), (true, 3), (true, 4), (true, 5), (true, 6), (true, 7), (true, 8), (true, 9), (true, 10), (true, 11), (true, 12), (true, 13), (true, 14), (true, 15), (true, 16), (true, 17), (true, 18), (true, 19), (true, 20), (true, 21), (true, 22), (false, 23)] (by kernel_rfl) (by kernel_rfl) ⟨HBD.out.cell 0, HBD.out.cell 1, HBD.out.cell 2⟩ ?_
    simp only [List.map_cons, List.map_nil, List.getD_cons_zero, List.getD_cons_succ, List.drop_succ_cons, List.drop_zero]
    (refine planG_take (v := ?_) (by rfl) ?_ ?_; rotate_left; (rintro wS ⟨hS1, hS2, hS3⟩; (try dsimp only at hS1 hS2 hS3); go_simp; try with_reducible rfl); simp only [Act.put, List.setIfInBounds_toArray, List.set_cons_zero, List.set_cons_succ])
    (refine planG_take (v := ?_) (by rfl) ?_ ?_; rotate_left; (rintro wS ⟨hS1, hS2, hS3⟩; (try dsimp only at hS1 hS2 hS3); go_simp; try with_reducible rfl); simp only [Act.put, List.setIfInBounds_toArray, List.set_cons_zero, List.set_cons_succ])
    (refine planG_take (v := ?_) (by rfl) ?_ ?_; rotate_left; (rintro wS ⟨hS1, hS2, hS3⟩; (try dsimp only at hS1 hS2 hS3); go_simp; try with_reducible rfl); simp only [Act.put, List.setIfInBounds_toArray, List.set_cons_zero, List.set_cons_succ])
    (refine planG_skip (by rfl) ?_; simp only [Act.put, List.setIfInBounds_toArray, List.set_cons_zero, List.set_cons_succ])
    (refine planG_skip (by rfl) ?_; simp only [Act.put, List.setIfInBounds_toArray, List.set_cons_zero, List.set_cons_succ])
    (refine planG_skip (by rfl) ?_; simp only [Act.put, List.setIfInBounds_toArray, List.set_cons_zero, List.set_cons_succ])
    (refine planG_take (v := ?_) (by rfl) ?_ ?_; rotate_left; (rintro wS ⟨hS1, hS2, hS3⟩; (try dsimp only at hS1 hS2 hS3); go_simp; try with_reducible rfl); simp only [Act.put, List.setIfInBounds_toArray, List.set_cons_zero, List.set_cons_succ])
    (refine planG_take (v := ?_) (by rfl) ?_ ?_; rotate_left; (rintro wS ⟨hS1, hS2, hS3⟩; (try dsimp only at hS1 hS2 hS3); go_simp; try with_reducible rfl); simp only [Act.put, List.setIfInBounds_toArray, List.set_cons_zero, List.set_cons_succ])
    (refine planG_skip (by rfl) ?_; simp only [Act.put, List.setIfInBounds_toArray, List.set_cons_zero, List.set_cons_succ])
    (refine planG_skip (by rfl) ?_; simp only [Act.put, List.setIfInBounds_toArray, List.set_cons_zero, List.set_cons_succ])
    (refine planG_skip (by rfl) ?_; simp only [Act.put, List.setIfInBounds_toArray, List.set_cons_zero, List.set_cons_succ])
    (refine planG_take (v := ?_) (by rfl) ?_ ?_; rotate_left; (rintro wS ⟨hS1, hS2, hS3⟩; (try dsimp only at hS1 hS2 hS3); go_simp; try with_reducible rfl); simp only [Act.put, List.setIfInBounds_toArray, List.set_cons_zero, List.set_cons_succ])
    (refine planG_take (v := ?_) (by rfl) ?_ ?_; rotate_left; (rintro wS ⟨hS1, hS2, hS3⟩; (try dsimp only at hS1 hS2 hS3); go_simp; try with_reducible rfl); simp only [Act.put, List.setIfInBounds_toArray, List.set_cons_zero, List.set_cons_succ])
    (refine planG_skip (by rfl) ?_; simp only [Act.put, List.setIfInBounds_toArray, List.set_cons_zero, List.set_cons_succ])
    (refine planG_skip (by rfl) ?_; simp only [Act.put, List.setIfInBounds_toArray, List.set_cons_zero, List.set_cons_succ])
    (refine planG_skip (by rfl) ?_; simp only [Act.put, List.setIfInBounds_toArray, List.set_cons_zero, List.set_cons_succ])
    (refine planG_skip (by rfl) ?_; simp only [Act.put, List.setIfInBounds_toArray, List.set_cons_zero, List.set_cons_succ])
    (refine planG_skip (by rfl) ?_; simp only [Act.put, List.setIfInBounds_toArray, List.set_cons_zero, List.set_cons_succ])
    (refine planG_skip (by rfl) ?_; simp only [Act.put, List.setIfInBounds_toArray, List.set_cons_zero, List.set_cons_succ])
    (refine planG_skip (by rfl) ?_; simp only [Act.put, List.setIfInBounds_toArray, List.set_cons_zero, List.set_cons_succ])
    (refine planG_skip (by rfl) ?_; simp only [Act.put, List.setIfInBounds_toArray, List.set_cons_zero, List.set_cons_succ])
    (refine planG_skip (by rfl) ?_; simp only [Act.put, List.setIfInBounds_toArray, List.set_cons_zero, List.set_cons_succ])
    (refine planG_take (v := ?_) (by rfl) ?_ ?_; rotate_left; (rintro wS ⟨hS1, hS2, hS3⟩; (try dsimp only at hS1 hS2 hS3); go_simp; try with_reducible rfl); simp only [Act.put, List.setIfInBounds_toArray, List.set_cons_zero, List.set_cons_succ])
    refine planG_run (by rfl) (fun K hK => ?_)
    refine wp_store_row 163 (.tmp 2) (.tmp 22) rfl w.heap.size #[.int .i64 pl, .string sm, .string dt] (by rfl) (by rfl) 163 _ HA9.out info163 (by rfl) (by simp [Value.oneCell']) ?_
    refine hK.out _ _ ⟨(HBD.out.farRow HNE.out _).cell 0, (HBD.out.farRow HNE.out _).cell 1, (HBD.out.farRow HNE.out _).cell 2⟩ ?_
    clear hK K
    try simp only [Act.put, List.setIfInBounds_toArray, List.set_cons_zero, List.set_cons_succ]
    refine planG_nil ?_
    go_wp2_with fail
    refine NoPanic.normal ?_
    go_wp2_with fail
    refine bodyPost_ret (results_cell_tmp (fn := Tryz.f128) rfl _ _ w.heap.size #[.int .i64 pl, .string sm, .string dt] (by rfl) (run_loadVar_row _ _ _ _ _ _ _ (HA9.out.row _) Tryz.underlying163 rfl info163)) rfl ?_
    exact ⟨by rw [HV1.out]; rfl, below_only HO10.out (Nat.le_refl _) (only_setRow (Only.refl _ [w.heap.size]) (List.mem_singleton.2 rfl) _) (fun y hy => by rw [List.mem_singleton] at hy; omega)⟩

end Go.Proofs.YtimpjlnbbdfehaaGreatDoor
