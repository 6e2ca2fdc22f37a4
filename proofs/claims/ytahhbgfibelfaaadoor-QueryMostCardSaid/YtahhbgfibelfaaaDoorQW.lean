import Derived.Test.YtahhbgfibelfaaaDoorQO
namespace Go.Proofs.YtahhbgfibelfaaaDoor
open Go.RowKit Go.Lib
set_option linter.unusedVariables false

attribute [local go_sem] wfld0 wfld1 wfld2 wfld3
theorem i64_mask (n : Int) (k : Nat) (m : Int) (hm : (BitVec.ofInt 64 m).toNat = 2 ^ k - 1) (hk : k ≤ 62) : bits .and .i64 n m = n % (2 ^ k : Nat) := by
  have hp : (2 : Nat) ^ k ≤ 2 ^ 62 := Nat.pow_le_pow_right (by omega) hk
  have hd : (2 : Nat) ^ k ∣ 2 ^ 64 := Nat.pow_dvd_pow 2 (by omega)
  have hq : 0 < 2 ^ k := Nat.two_pow_pos k
  have key : (BitVec.ofInt 64 n &&& BitVec.ofInt 64 m).toNat = (n % ((2 ^ 64 : Nat) : Int)).toNat % 2 ^ k := by
    rw [BitVec.toNat_and, BitVec.toNat_ofInt, hm, Nat.and_two_pow_sub_one_eq_mod]
  show IntKind.i64.wrap ((BitVec.ofInt 64 n &&& BitVec.ofInt 64 m).toNat : Nat) = n % (2 ^ k : Nat)
  rw [key, IntKind.wrap_i64]
  have h0 : 0 ≤ n % ((2 ^ 64 : Nat) : Int) := Int.emod_nonneg _ (by decide)
  have e : (((n % ((2 ^ 64 : Nat) : Int)).toNat % 2 ^ k : Nat) : Int) = n % ((2 ^ k : Nat) : Int) := by
    rw [Int.natCast_emod, Int.toNat_of_nonneg h0]
    exact Int.emod_emod_of_dvd n (Int.natCast_dvd_natCast.2 hd)
  rw [e]
  have h1 : 0 ≤ n % ((2 ^ k : Nat) : Int) := Int.emod_nonneg _ (by omega)
  have h2 : n % ((2 ^ k : Nat) : Int) < ((2 ^ k : Nat) : Int) := Int.emod_lt_of_pos _ (by omega)
  have h3 : ((2 ^ k : Nat) : Int) ≤ ((2 ^ 62 : Nat) : Int) := by omega
  have h4 : ((2 ^ 62 : Nat) : Int) = 4611686018427387904 := by decide
  omega
theorem and7 (n : Int) : bits .and .i64 n 7 = n % 8 := i64_mask n 3 7 (by decide) (by omega)
theorem and15 (n : Int) : bits .and .i64 n 15 = n % 16 := i64_mask n 4 15 (by decide) (by omega)
theorem beq4 (x y : Bool) (w : World) : (binOp .eql 4 (.bool x) (.bool y)).run Tryd.prog w = .ok (.bool (x == y)) w := by simp [binOp, run_equal_bool w 4 x y Tryd.underlying4]
attribute [local go_sem ↓] beq4
theorem mk_edge (a j : Nat) (h : j < a) : mkS (pFind ++ rep j pEdge) ++ ⟨#[45, 91, 93, 45, 62, 40, 41]⟩ = mkS (pFind ++ rep (j + 1) pEdge) := by
  show mkS _ ++ mkS pEdge = _
  rw [mkS_app, rep_snoc, List.append_assoc]
set_option maxHeartbeats 8000000 in
set_option maxRecDepth 100000 in
theorem most_walk (ed cd it : Int) (w : World) (hL : Laid w) :
    Calls Tryd.prog 3 #[.int .i64 ed, .int .i64 cd, .int .i64 it] w fun e w' => e = .returned (.bool true) ∧ Below w.heap.size w w' := by
  have HLW := Lib.hid hL
  have hA := and7 ed
  have hB := and15 cd
  have hC := and15 it
  obtain ⟨a, ha⟩ : ∃ a : Nat, (a : Int) = ed % 8 := ⟨(ed % 8).toNat, by omega⟩
  obtain ⟨b, hb⟩ : ∃ b : Nat, (b : Int) = cd % 16 := ⟨(cd % 16).toNat, by omega⟩
  obtain ⟨c, hc⟩ : ∃ c : Nat, (c : Int) = it % 16 := ⟨(it % 16).toNat, by omega⟩
  have ha7 : a ≤ 7 := by omega
  have hb15 : b ≤ 15 := by omega
  have hc15 : c ≤ 15 := by omega
  rw [← ha] at hA
  rw [← hb] at hB
  rw [← hc] at hC
  have HP := Lib.hid (fun (s : ByteArray) w' (hs : s.size ≤ 1000000) (hl : Laid w') => parse_q s w' hs hl)
  have HAW := Lib.hid (fun w' (hl : Laid w') => awake_q w' hl)
  have HLT : Hid (∀ (j : Nat), j ≤ a → (mkS (pFind ++ rep j pEdge)).size ≤ 1000) := fun j hj => by
    have h1 : (rep j pEdge).length = j * 7 := rep_len _ _
    have h2 : pFind.length = 8 := rfl
    rw [mkS_size, List.length_append, h1, h2]; omega
  have HLC : Hid (∀ (j : Nat), j ≤ b → (mkS (pFind ++ (rep a pEdge ++ cnd j))).size ≤ 1000) := fun j hj => by
    have h1 : (rep a pEdge).length = a * 7 := rep_len _ _
    have h2 : pFind.length = 8 := rfl
    have h3 := cnd_len j
    rw [mkS_size, List.length_append, List.length_append, h1, h2]
    split at h3 <;> omega
  have HLI : Hid (∀ (j : Nat), j ≤ c → (mkS (pFind ++ (rep a pEdge ++ (cnd b ++ (pTell ++ rep j pItem))))).size ≤ 1000) := fun j hj => by
    have h1 : (rep a pEdge).length = a * 7 := rep_len _ _
    have h2 : pFind.length = 8 := rfl
    have h3 := cnd_len b
    have h4 : (rep j pItem).length = j * 4 := rep_len _ _
    have h5 : pTell.length = 7 := rfl
    rw [mkS_size, List.length_append, List.length_append, List.length_append, List.length_append, h1, h2, h4, h5]
    split at h3 <;> omega
  clear hL ha hb hc
  go_enter Tryd.func3, Tryd.ntmps3
  go_wp2_with fail
  go_loopg [10, 11] a (fun q v10 v11 wr => ∃ (j : Nat) (S : ByteArray), q + j = a ∧ v11 = .int .i64 (j : Int) ∧ v10 = .string S ∧ S = mkS (pFind ++ rep j pEdge) ∧ wr = w)
  case atStart => exact ⟨0, _, by omega, rfl, rfl, rfl, rfl⟩
  case round =>
    obtain ⟨j, S, hj, rfl, rfl, hS, rfl⟩ := hrel
    have HS := Lib.hid hS
    have hz : S.size ≤ 1000 := by rw [hS]; exact HLT.out j (by omega)
    clear hS
    by_cases hlt : j < a
    · have hl1 : (j : Int) < (a : Int) := by omega
      have hs7 : ¬ (9223372036854775807 < S.size + 7) := by omega
      have HN : Hid (S ++ ⟨#[45, 91, 93, 45, 62, 40, 41]⟩ = mkS (pFind ++ rep (j + 1) pEdge)) := by rw [HS.out]; exact mk_edge a j hlt
      go_wp2_with fail
      go_roundg (gk - 1)
      case measure => omega
      case rel => exact ⟨j + 1, _, by omega, by go_num, rfl, HN.out, rfl⟩
    · have hl1 : ¬ (j : Int) < (a : Int) := by omega
      have hja : j = a := by omega
      have HS2 : Hid (S = mkS (pFind ++ (rep a pEdge ++ cnd 0))) := by show _ = _; rw [HS.out, hja]; simp [cnd]
      clear hlt HS hz hja
      go_wp2_with fail
      go_loopg [10, 12] b (fun q v10 v12 wz => ∃ (i : Nat) (S : ByteArray), q + i = b ∧ v12 = .int .i64 (i : Int) ∧ v10 = .string S ∧ S = mkS (pFind ++ (rep a pEdge ++ cnd i)) ∧ wz = wr)
      case atStart => exact ⟨0, _, by omega, rfl, rfl, HS2.out, rfl⟩
      case round =>
        obtain ⟨i, S, hi, rfl, rfl, hS, rfl⟩ := hrel
        have HS := Lib.hid hS
        have hz : S.size ≤ 1000 := by rw [hS]; exact HLC.out i (by omega)
        clear hS HS2
        by_cases hlt : i < b
        · have hl1 : (i : Int) < (b : Int) := by omega
          cases i with
          | zero =>
            have hs6 : ¬ (9223372036854775807 < S.size + 6) := by omega
            have hs14 : ¬ (9223372036854775807 < (S ++ (⟨#[32, 119, 104, 101, 114, 101]⟩ : ByteArray)).size + 8) := by rw [ByteArray.size_append, show (⟨#[32, 119, 104, 101, 114, 101]⟩ : ByteArray).size = 6 from rfl]; omega
            have hs15 : ¬ (9223372036854775807 < S.size + 6 + 8) := by omega
            have HN : Hid (S ++ ⟨#[32, 119, 104, 101, 114, 101]⟩ ++ ⟨#[32, 97, 46, 107, 32, 61, 32, 49]⟩ = mkS (pFind ++ (rep a pEdge ++ cnd 1))) := by
              rw [HS.out]
              show mkS _ ++ mkS pWhere ++ mkS pCond = _
              rw [mkS_app, mkS_app]
              simp [cnd, rep]
            go_wp2_with fail
            go_roundg (gk - 1)
            case measure => omega
            case rel => exact ⟨1, _, by omega, by go_num, rfl, HN.out, rfl⟩
          | succ i =>
            have hne : (((i + 1 : Nat) : Int) == 0) = false := by simp; omega
            have hne2 : (((i : Nat) : Int) + 1 == 0) = false := by simp; omega
            have hs6 : ¬ (9223372036854775807 < S.size + 4) := by omega
            have hs14 : ¬ (9223372036854775807 < (S ++ (⟨#[32, 97, 110, 100]⟩ : ByteArray)).size + 8) := by rw [ByteArray.size_append, show (⟨#[32, 97, 110, 100]⟩ : ByteArray).size = 4 from rfl]; omega
            have hs15 : ¬ (9223372036854775807 < S.size + 4 + 8) := by omega
            have HN : Hid (S ++ ⟨#[32, 97, 110, 100]⟩ ++ ⟨#[32, 97, 46, 107, 32, 61, 32, 49]⟩ = mkS (pFind ++ (rep a pEdge ++ cnd (i + 2)))) := by
              rw [HS.out]
              show mkS _ ++ mkS pAnd ++ mkS pCond = _
              rw [mkS_app, mkS_app, cnd_snoc]
              simp only [List.append_assoc]
            obtain ⟨i2, hi2⟩ : ∃ i2, i2 = i + 1 := ⟨_, rfl⟩
            rw [← hi2] at hl1 hne ⊢
            go_wp2_with fail
            go_roundg (gk - 1)
            case measure => omega
            case rel => exact ⟨i + 2, _, by omega, by go_num, rfl, HN.out, rfl⟩
        · have hl1 : ¬ (i : Int) < (b : Int) := by omega
          have hib : i = b := by omega
          have hs7 : ¬ (9223372036854775807 < S.size + 7) := by omega
          have HS2 : Hid (S ++ ⟨#[32, 116, 101, 108, 108, 32, 97]⟩ = mkS (pFind ++ (rep a pEdge ++ (cnd b ++ (pTell ++ rep 0 pItem))))) := by
            show _ = _
            rw [HS.out, hib]
            show mkS _ ++ mkS pTell = _
            rw [mkS_app]
            simp [rep]
          clear hlt HS hz hib
          go_wp2_with fail
          go_loopg [10, 13] c (fun q v10 v13 wy => ∃ (k : Nat) (S : ByteArray), q + k = c ∧ v13 = .int .i64 (k : Int) ∧ v10 = .string S ∧ S = mkS (pFind ++ (rep a pEdge ++ (cnd b ++ (pTell ++ rep k pItem)))) ∧ wy = wr)
          case atStart => exact ⟨0, _, by omega, rfl, rfl, HS2.out, rfl⟩
          case round =>
            obtain ⟨k, S, hk, rfl, rfl, hS, rfl⟩ := hrel
            have HS := Lib.hid hS
            have hz : S.size ≤ 1000 := by rw [hS]; exact HLI.out k (by omega)
            clear hS HS2
            by_cases hlt : k < c
            · have hl1 : (k : Int) < (c : Int) := by omega
              have hs4 : ¬ (9223372036854775807 < S.size + 4) := by omega
              have HN : Hid (S ++ ⟨#[44, 97, 46, 107]⟩ = mkS (pFind ++ (rep a pEdge ++ (cnd b ++ (pTell ++ rep (k + 1) pItem))))) := by
                show _ = _
                rw [HS.out]
                show mkS _ ++ mkS pItem = _
                rw [mkS_app, rep_snoc]
                simp only [List.append_assoc]
              go_wp2_with fail
              go_roundg (gk - 1)
              case measure => omega
              case rel => exact ⟨k + 1, _, by omega, by go_num, rfl, HN.out, rfl⟩
            · have hl1 : ¬ (k : Int) < (c : Int) := by omega
              have hkc : k = c := by omega
              have HT0 : Hid (S = mkS (txtM a b c none)) := by show _ = _; rw [HS.out, hkc]; simp [txtM, lexEnd]
              have HT6 : Hid (S ++ ⟨#[32, 108, 105, 109, 105, 116, 32, 50, 53, 54]⟩ = mkS (txtM a b c (some 54))) := by
                show _ = _
                rw [HS.out, hkc]
                show mkS _ ++ mkS (pLim 54) = _
                rw [mkS_app]
                simp only [txtM, lexEnd, List.append_assoc]
              have HT7 : Hid (S ++ ⟨#[32, 108, 105, 109, 105, 116, 32, 50, 53, 55]⟩ = mkS (txtM a b c (some 55))) := by
                show _ = _
                rw [HS.out, hkc]
                show mkS _ ++ mkS (pLim 55) = _
                rw [mkS_app]
                simp only [txtM, lexEnd, List.append_assoc]
              have hs10 : ¬ (9223372036854775807 < S.size + 10) := by omega
              have HZ6 : Hid ((S ++ (⟨#[32, 108, 105, 109, 105, 116, 32, 50, 53, 54]⟩ : ByteArray)).size ≤ 1000000) := by show _ ≤ _; rw [ByteArray.size_append, show (⟨#[32, 108, 105, 109, 105, 116, 32, 50, 53, 54]⟩ : ByteArray).size = 10 from rfl]; omega
              have HZ7 : Hid ((S ++ (⟨#[32, 108, 105, 109, 105, 116, 32, 50, 53, 55]⟩ : ByteArray)).size ≤ 1000000) := by show _ ≤ _; rw [ByteArray.size_append, show (⟨#[32, 108, 105, 109, 105, 116, 32, 50, 53, 55]⟩ : ByteArray).size = 10 from rfl]; omega
              clear hlt HS hkc
              go_wp2_with fail
              refine (HP.out S _ (by omega) HLW.out).mono ?_
              intro e1 w1 hp
              obtain ⟨hb1, r1, hr1, A1, A2, A3, A4, n1, n2, n3, n4, k1, k2, k3, k4, m1, a1, rfl⟩ := parse_shape hp
              have HB1 := Lib.hid (hb1.alloc hb1.size (.cells #[.slice A1 n1 k1, .slice A2 n2 k2, .slice A3 n3 k3, .slice A4 n4 k4, .int .i64 m1] 27))
              have HC1 := Lib.hid ((code_most a b c none (by simp) ha7 hb15 hc15 r1 (by rw [← HT0.out]; exact hr1)).2 (by simp))
              clear hp hb1 hr1
              generalize codeOf r1 = x1 at *
              go_wp2_with fail
              refine (HP.out _ _ HZ6.out (HLW.out.below (w0 := w1) HB1.out)).mono ?_
              intro e1 w2 hp
              obtain ⟨hb2, r2, hr2, B1, B2, B3, B4, p1, p2, p3, p4, q1, q2, q3, q4, m2, a2, rfl⟩ := parse_shape hp
              have HB2 := Lib.hid ((HB1.out.trans (hb2.mono HB1.out.size)).alloc (Nat.le_trans HB1.out.size hb2.size) (.cells #[.slice B1 p1 q1, .slice B2 p2 q2, .slice B3 p3 q3, .slice B4 p4 q4, .int .i64 m2] 27))
              have HC2 := Lib.hid ((code_most a b c (some 54) (fun x e => .inl (Option.some.inj e).symm) ha7 hb15 hc15 r2 (by rw [← HT6.out]; exact hr2)).2 (by decide))
              clear hp hb2 hr2
              generalize codeOf r2 = x2 at *
              go_wp2_with fail
              refine (HP.out _ _ HZ7.out (HLW.out.below (w0 := w1) HB2.out)).mono ?_
              intro e1 w3 hp
              obtain ⟨hb3, r3, hr3, C1, C2, C3, C4, s1, s2, s3, s4, t1, t2, t3, t4, m3, a3, rfl⟩ := parse_shape hp
              have HB3 := Lib.hid ((HB2.out.trans (hb3.mono HB2.out.size)).alloc (Nat.le_trans HB2.out.size hb3.size) (.cells #[.slice C1 s1 t1, .slice C2 s2 t2, .slice C3 s3 t3, .slice C4 s4 t4, .int .i64 m3] 27))
              have hc3 := (code_most a b c (some 55) (fun x e => .inr (Option.some.inj e).symm) ha7 hb15 hc15 r3 (by rw [← HT7.out]; exact hr3)).1 rfl
              rw [hc3]
              clear hp hb3 hr3 hc3
              go_upto_region 22 with fail
              clear hA hB hC HLT HLC HLI HP hs10 hz hl1
              have HC8 : Hid (decide (wrap64 ((c : Int) + 1) ≤ 8) = decide (c + 1 ≤ 8)) := by
                show _ = _
                rw [show wrap64 ((c : Int) + 1) = (c : Int) + 1 by unfold wrap64; omega]
                exact decide_eq_decide.2 (by omega)
              have HA6 : Hid (decide ((a : Int) ≤ 6) = decide (a ≤ 6)) := decide_eq_decide.2 (by omega)
              have HB8 : Hid (decide ((b : Int) ≤ 8) = decide (b ≤ 8)) := decide_eq_decide.2 (by omega)
              have da := HA6.out
              have db := HB8.out
              have dc := HC8.out
              have h1 := HC1.out
              have h2 := HC2.out
              clear HA6 HB8 HC8 HC1 HC2 ha7 hb15 hc15
              generalize decide (a ≤ 6) = va at *
              generalize decide (b ≤ 8) = vb at *
              generalize decide (c + 1 ≤ 8) = vc at *
              cases va <;> cases vb <;> cases vc
              all_goals
                simp only [Bool.and_true, Bool.and_false, Bool.true_and, Bool.false_and, Bool.false_eq_true, if_true, if_false] at h1 h2
                subst h1 h2
                go_wp2_with fail
                refine (HAW.out _ (HLW.out.below (w0 := w1) HB3.out)).mono ?_
                rintro e1 w4 ⟨rfl, hb4⟩
                have HB4 := Lib.hid (HB3.out.trans (hb4.mono HB3.out.size))
                clear hb4
                go_wp2_with fail
                go_ret
                exact ⟨by simp, HB4.out⟩

end Go.Proofs.YtahhbgfibelfaaaDoor
