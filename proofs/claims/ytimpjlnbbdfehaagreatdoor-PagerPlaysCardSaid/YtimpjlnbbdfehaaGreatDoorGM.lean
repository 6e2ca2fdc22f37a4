import Derived.Test.YtimpjlnbbdfehaaGreatDoorGL
import Derived.Test.YtimpjlnbbdfehaaGreatDoorGJ
import Derived.ChangeArms
import Derived.WideShapes
namespace Go.Proofs.YtimpjlnbbdfehaaGreatDoor
open Go.RowKit Go.Shelf Go.Lib Go.Sort
set_option linter.unusedVariables false
attribute [local go_sem ↓] shr_32_1 shl_32_1 shr_32_2 shl_32_2 shr_32_3 shl_32_3 shr_32_4 shl_32_4 shr_32_5 shl_32_5 shr_32_6 shl_32_6 shr_32_7 shl_32_7 shr_32_8 shl_32_8 shr_32_9 shl_32_9 shr_32_10 shl_32_10 shr_32_11 shl_32_11 shr_32_12 shl_32_12 shr_32_13 shl_32_13 shr_32_14 shl_32_14 shr_32_15 shl_32_15 shr_32_16 shl_32_16 shr_32_17 shl_32_17 shr_32_18 shl_32_18 shr_32_19 shl_32_19 shr_32_20 shl_32_20 shr_32_21 shl_32_21 shr_32_22 shl_32_22 shr_32_23 shl_32_23 shr_32_24 shl_32_24 shr_32_25 shl_32_25 shr_32_26 shl_32_26 shr_32_27 shl_32_27 shr_32_28 shl_32_28 shr_32_29 shl_32_29 shr_32_30 shl_32_30 shr_32_31 shl_32_31 shr_64_3 shl_64_3 shr_64_7 shl_64_7 shr_64_8 shl_64_8 shr_64_16 shl_64_16 shr_64_24 shl_64_24 shr_64_32 shl_64_32 shr_64_40 shl_64_40 shr_64_48 shl_64_48 shr_64_56 shl_64_56
attribute [local go_sem] add_u32 add_u64 and_u8 or_u8 xor_u8 and_u32 or_u32 xor_u32 and_u64 or_u64 xor_u64 conv_32_8 conv_64_8 conv_64_32 conv_8_32 conv_8_64 conv_32_64

set_option maxHeartbeats 16000000 in
set_option maxRecDepth 100000 in
theorem plays_walk (bl mo : Int) (A : Option Addr) (cap : Nat) (zs : List ActP) (hzl : zs.length ≤ 9223372036854775807) (hsz : ∀ a ∈ zs, a.s.size ≤ maxLen) (hnn : ∀ a ∈ zs, I64 a.n) (W : World) (hrow : Row W A (actsC zs)) (hT : Salts W) :
    Calls Tryz.prog 7 #[.int .i64 bl, .int .i64 mo, .slice A zs.length cap] W fun e w' => e = .returned (.bool true) ∧ Below W.heap.size W w' := by
  obtain ⟨N, hN⟩ : ∃ N : Nat, (N : Int) = bl % 16 + 3 := ⟨(bl % 16 + 3).toNat, by omega⟩
  have hN2 : 3 ≤ N ∧ N ≤ 18 := by omega
  have HM : Hid (Calls Tryz.prog 16 #[.int .i64 (N : Int), .int .i64 (mo % 8)] W (Made N (mo % 8) W)) := made_ok N (mo % 8) (by omega) (by omega) W hT
  have HT := Lib.hid hT
  have HRW := Lib.hid hrow
  have HZL := Lib.hid hzl
  have HSZ := Lib.hid hsz
  have HNN := Lib.hid hnn
  have HNB : Hid (3 ≤ N ∧ N ≤ 18) := hN2
  have ha15 : bits .and .i64 bl 15 = bl % 16 := i64_mask bl 4 15 (by decide) (by omega)
  have ha7 := and7
  have ha3 := and3
  have hw3 : IntKind.i64.wrap (bl % 16 + 3) = (N : Int) := by rw [hN]; exact wrap_in _ (by omega) (by omega)
  have hw3' : wrap64 (bl % 16 + 3) = (N : Int) := by rw [hN]; exact w64_small _ (by omega) (by omega)
  have HMO := Lib.hid (most_of mo)
  have HMP : Hid (1 ≤ mostN (mo % 8)) := by unfold mostN; show 1 ≤ _; omega
  obtain ⟨M, hM⟩ : ∃ M, M = mostN (mo % 8) := ⟨_, rfl⟩
  rw [← hM] at HMO HMP
  have HMM : Hid (mostN (mo % 8) = M) := hM.symm
  clear hM
  clear hT hrow hzl hsz hnn hN hN2
  go_enter Tryz.func7, Tryz.ntmps7
  go_wp2_with fail
  refine HM.out.mono ?_
  rintro e w1 ⟨i, own1, rfl, h1, hb1, hz1⟩
  have R1 := Lib.hid (PR.start N (mo % 8) (by have := HNB.out; omega) (by have := HNB.out; omega) h1 (keeps_made hb1 hz1))
  have HR1 : Hid (∃ own, PR W (w1.alloc (.cells #[] 73)) i N 0 M (PS.new N (mo % 8)) own [] (.slice (some ⟨w1.heap.size, 0, none⟩) 0 0)) := by
    rw [HMM.out] at R1
    exact ⟨_, R1.out⟩
  clear h1 hb1 hz1 HM R1
  go_wp2_with fail
  generalize w1.alloc (.cells #[] 73) = w2 at *
  generalize (Value.slice (some ⟨w1.heap.size, 0, none⟩) 0 0) = v0 at *
  have HSA : Hid (Salts w2) := by obtain ⟨own, h⟩ := HR1.out; exact h.sys.salts
  refine (aw_ok _ HSA.out).mono ?_
  rintro e w3 ⟨rfl, hb3⟩
  have HR3 : Hid (∃ own, PR W w3 i N 0 M (PS.new N (mo % 8)) own [] v0) := by
    obtain ⟨own, h⟩ := HR1.out
    obtain ⟨h4, k4⟩ := h.sys.none_step (only_of_below hb3)
    exact ⟨_, h.toPM.call h4 k4, h.ok, h.inv, h.most⟩
  clear hb3 HR1 HSA
  go_wp2_with fail
  go_loopg [12, 13] (min zs.length 50 : Nat) (fun q v12 v13 wr => ∃ (k : Nat) (st : PS) (own : Nat → Nat) (all : List Pg), q + k = min zs.length 50 ∧ v13 = .int .i64 (k : Int) ∧ PR W wr i N (4 * k) M st own all v12)
  case atStart =>
    obtain ⟨own, h⟩ := HR3.out
    exact ⟨0, _, own, [], by omega, rfl, h⟩
  case round =>
    obtain ⟨k, st, own, all, hq, rfl, hr⟩ := hrel
    have R := Lib.hid hr
    clear hr HR3
    by_cases hlt : k < min zs.length 50
    · have hk1 : k < zs.length := by omega
      have hk2 : k < 50 := by omega
      have hin : decide ((k : Int) < (zs.length : Int)) = true := by simp; omega
      have h50 : decide ((k : Int) < 50) = true := by simp; omega
      obtain ⟨ad, rfl, hcs⟩ := HRW.out (by rw [actsC_len]; omega)
      have HCL : Hid (∀ j u, zs[k].cells[j]? = some u → wr.cell? ((ad.add (k * 3)).add j) = some u) := by
        have hrow2 := (HRW.out).belowAll (below_of_keeps R.out.kp)
        obtain ⟨ad', e', hc⟩ := hrow2 (by rw [actsC_len]; omega)
        injection e' with e'
        subst e'
        intro j u hj
        rw [Addr.add_add]
        refine hc (k * 3 + j) u ?_
        have hj3 : j < 3 := by
          have := (List.getElem?_eq_some_iff.1 hj).1
          simpa [ActP.cells] using this
        rw [actsC_get zs k hk1 j hj3]
        exact hj
      have HSK : Hid (zs[k].s.size ≤ maxLen ∧ I64 zs[k].n) := ⟨HSZ.out _ (List.getElem_mem hk1), HNN.out _ (List.getElem_mem hk1)⟩
      clear hcs
      generalize zs[k] = act at *
      obtain ⟨aw, an, sa⟩ := act
      unfold ActP.cells at HCL
      dsimp only at HCL HSK
      have HA : Hid (Blk (wr.alloc (.cells #[.int .i64 0, .int .i64 0, .string ⟨#[]⟩] 71)) wr.heap.size 71 #[.int .i64 0, .int .i64 0, .string ⟨#[]⟩]) := Blk.new wr 71 _
      obtain ⟨own4, m4, b4, z4, k4⟩ := R.out.toPM.box 71 #[.int .i64 0, .int .i64 0, .string ⟨#[]⟩] #[.int .i64 aw, .int .i64 an, .string sa]
      have R4 : Hid (PR W ((wr.alloc (.cells #[.int .i64 0, .int .i64 0, .string ⟨#[]⟩] 71)).setRow wr.heap.size #[.int .i64 aw, .int .i64 an, .string sa]) i N (4 * k) M st own4 all u12) := ⟨m4, R.out.ok, R.out.inv, R.out.most⟩
      have B4 := Lib.hid b4
      have Z4 := Lib.hid z4
      have HLN := Lib.hid (R.out.len (by have := HNB.out; omega))
      have hln : all.length ≤ 100 := by have := HLN.out; have := HNB.out; omega
      obtain ⟨A12, c12, hv12, _, _, _⟩ := R.out.mid.form
      clear m4 b4 z4 k4 R
      subst hv12
      go_upto_if 59 with (first
        | (refine wpList_load_at rfl 71 (.tmp 55) (by rfl) (ad.add (k * 3)) (by rfl) [.int .i64 aw, .int .i64 an, .string sa] _ HCL.out Tryz.underlying71 rfl info71 ?_)
        | (refine wpList_store_row rfl 71 (.tmp 14) (.tmp 56) (by rfl) wr.heap.size #[.int .i64 aw, .int .i64 an, .string sa] (by rfl) (by rfl) 71 _ HA.out info71 (by rfl) (by simp [Value.oneCell']) ?_; generalize (wr.alloc (.cells #[.int .i64 0, .int .i64 0, .string ⟨#[]⟩] 71)).setRow wr.heap.size #[.int .i64 aw, .int .i64 an, .string sa] = w5 at *)
        | fail)
      have b41 := B4.out.cell 1
      go_cut [15] (fun v15 wc => wc = w5 ∧ ∃ t : Int, v15 = .int .i64 t ∧ ((all = [] ∧ t = -1) ∨ ∃ j : Nat, j < all.length ∧ t = (j : Int)))
      case first => as_aux_lemma =>
        by_cases hall : all = []
        · subst hall
          go_wp2_with fail
          go_meet
          exact ⟨rfl, -1, rfl, .inl ⟨rfl, rfl⟩⟩
        · have hL : 0 < all.length := List.length_pos_iff.2 hall
          obtain ⟨t, j, e1, e2, e3, e4, e5, e6, e7⟩ := at_of an HSK.out.2 all.length hL hln
          have hg : decide ((0 : Int) < (all.length : Int)) = true := by simp; omega
          go_wp2_with fail
          go_meet
          exact ⟨rfl, (j : Int), rfl, .inr ⟨j, e7, rfl⟩⟩
      case rest =>
        obtain ⟨rfl, t, rfl, ht⟩ := hcut
        have HTT := Lib.hid ht
        clear ht b41
        have b40 := B4.out.cell 0
        go_upto_block 2 with fail
        clear b40
        have HC4 : Hid (4 * k ≤ 200) := by show _ ≤ _; omega
        have HSA := Lib.hid HSK.out.1
        have HW0 := Lib.hid HT.out.1
        have HMOD : Hid (0 ≤ aw % 8 ∧ aw % 8 < 8) := ⟨by omega, by omega⟩
        generalize hwh : aw % 8 = wh at *
        have HWH := Lib.hid hwh
        clear hwh
        go_cut [12] (fun v12 wc => ∃ (st2 : PS) (own2 : Nat → Nat) (all2 : List Pg), PR W wc i N (4 * k + 4) M st2 own2 all2 v12)
        case first => as_aux_lemma =>
          by_cases h3 : wh = 3
          · refine arm_read _ _ wh W _ i N (4 * k) M st own4 all A12 c12 wr.heap.size t an sa aw _ _ _ _ _ _ _ _ _ _ _ _ _ _ _ _ _ _ _ _ _ _ _ _ _ _ _ _ _ _ _ _ _ _ _ _ _ _ _ _ _ _ _ _ _ _ _ _ _ _ _ _ _ _ _ _ _ _ _ _ _ _ _ _ _ _ _ _ _ _ _ _ _ _ _ _ _ _ _ _ _ _ _ _ _ _ _ _ _ _ _ _ _ _ _ _ _ _ _ _ _ _ _ _ _ _ _ _ _ _ _ _ _ _ _ _ _ _ _ _ _ _ _ _ _ _ _ _ _ _ _ _ _ _ _ _ _ _ _ _ _ _ _ _ _ _ _ _ _ _ _ _ _ _ _ _ _ _ _ _ _ _ _ _ _ _ _ _ _ _ _ _ _ _ _ _ _ _ _ _ _ _ _ _ _ _ _ _ _ _ _ _ _ _ _ _ _ _ _ _ _ _ _ _ _ _ _ _ _ _ _ _ _ _ _ _ _ _ _ _ _ _ _ _ _ _ _ _ _ _ _ _ _ _ _ _ _ _ _ _ _ _ _ _ _ _ _ _ _ _ _ _ _ R4 B4 Z4 HTT HNB HC4 HMP HSA h3  ?_
            refine Lib.hid ?_
            intros
            rename_i hpr
            go_wp2_with fail
            go_meet
            exact ⟨_, _, _, hpr⟩
          by_cases h4 : wh = 4
          · refine arm_drop _ _ wh W _ i N (4 * k) M st own4 all A12 c12 wr.heap.size t an sa aw _ _ _ _ _ _ _ _ _ _ _ _ _ _ _ _ _ _ _ _ _ _ _ _ _ _ _ _ _ _ _ _ _ _ _ _ _ _ _ _ _ _ _ _ _ _ _ _ _ _ _ _ _ _ _ _ _ _ _ _ _ _ _ _ _ _ _ _ _ _ _ _ _ _ _ _ _ _ _ _ _ _ _ _ _ _ _ _ _ _ _ _ _ _ _ _ _ _ _ _ _ _ _ _ _ _ _ _ _ _ _ _ _ _ _ _ _ _ _ _ _ _ _ _ _ _ _ _ _ _ _ _ _ _ _ _ _ _ _ _ _ _ _ _ _ _ _ _ _ _ _ _ _ _ _ _ _ _ _ _ _ _ _ _ _ _ _ _ _ _ _ _ _ _ _ _ _ _ _ _ _ _ _ _ _ _ _ _ _ _ _ _ _ _ _ _ _ _ _ _ _ _ _ _ _ _ _ _ _ _ _ _ _ _ _ _ _ _ _ _ _ _ _ _ _ _ _ _ _ _ _ _ _ _ _ _ _ _ _ _ _ _ _ _ _ _ _ _ _ _ _ _ _ R4 B4 Z4 HTT HNB HC4 HMP HSA h4 HW0 ?_
            refine Lib.hid ?_
            intros
            rename_i hpr
            go_wp2_with fail
            go_meet
            exact ⟨_, _, _, hpr⟩
          by_cases h5 : wh = 5
          · have HAW : Hid ((aw % 8 == 5) = true) := by show _ = _; rw [HWH.out]; simp [h5]
            refine arm_done _ _ wh W _ i N (4 * k) M st own4 all A12 c12 wr.heap.size t an sa aw _ _ _ _ _ _ _ _ _ _ _ _ _ _ _ _ _ _ _ _ _ _ _ _ _ _ _ _ _ _ _ _ _ _ _ _ _ _ _ _ _ _ _ _ _ _ _ _ _ _ _ _ _ _ _ _ _ _ _ _ _ _ _ _ _ _ _ _ _ _ _ _ _ _ _ _ _ _ _ _ _ _ _ _ _ _ _ _ _ _ _ _ _ _ _ _ _ _ _ _ _ _ _ _ _ _ _ _ _ _ _ _ _ _ _ _ _ _ _ _ _ _ _ _ _ _ _ _ _ _ _ _ _ _ _ _ _ _ _ _ _ _ _ _ _ _ _ _ _ _ _ _ _ _ _ _ _ _ _ _ _ _ _ _ _ _ _ _ _ _ _ _ _ _ _ _ _ _ _ _ _ _ _ _ _ _ _ _ _ _ _ _ _ _ _ _ _ _ _ _ _ _ _ _ _ _ _ _ _ _ _ _ _ _ _ _ _ _ _ _ _ _ _ _ _ _ _ _ _ _ _ _ _ _ _ _ _ _ _ _ _ _ _ _ _ _ _ _ _ _ _ _ _ R4 B4 Z4 HTT HNB HC4 HMP HSA h5 HW0 HAW ?_
            refine Lib.hid ?_
            intros
            rename_i hpr
            go_wp2_with fail
            go_meet
            exact ⟨_, _, _, hpr⟩
          by_cases h6 : wh = 6
          · have HAW : Hid ((aw % 8 == 5) = false) := by show _ = _; rw [HWH.out]; simp [h6]
            refine arm_undo _ _ wh W _ i N (4 * k) M st own4 all A12 c12 wr.heap.size t an sa aw _ _ _ _ _ _ _ _ _ _ _ _ _ _ _ _ _ _ _ _ _ _ _ _ _ _ _ _ _ _ _ _ _ _ _ _ _ _ _ _ _ _ _ _ _ _ _ _ _ _ _ _ _ _ _ _ _ _ _ _ _ _ _ _ _ _ _ _ _ _ _ _ _ _ _ _ _ _ _ _ _ _ _ _ _ _ _ _ _ _ _ _ _ _ _ _ _ _ _ _ _ _ _ _ _ _ _ _ _ _ _ _ _ _ _ _ _ _ _ _ _ _ _ _ _ _ _ _ _ _ _ _ _ _ _ _ _ _ _ _ _ _ _ _ _ _ _ _ _ _ _ _ _ _ _ _ _ _ _ _ _ _ _ _ _ _ _ _ _ _ _ _ _ _ _ _ _ _ _ _ _ _ _ _ _ _ _ _ _ _ _ _ _ _ _ _ _ _ _ _ _ _ _ _ _ _ _ _ _ _ _ _ _ _ _ _ _ _ _ _ _ _ _ _ _ _ _ _ _ _ _ _ _ _ _ _ _ _ _ _ _ _ _ _ _ _ _ _ _ _ _ _ _ R4 B4 Z4 HTT HNB HC4 HMP HSA h6 HW0 HAW ?_
            refine Lib.hid ?_
            intros
            rename_i hpr
            go_wp2_with fail
            go_meet
            exact ⟨_, _, _, hpr⟩
          by_cases h7 : wh = 7
          · refine arm_epoch _ _ wh W _ i N (4 * k) M st own4 all A12 c12 wr.heap.size t an sa aw _ _ _ _ _ _ _ _ _ _ _ _ _ _ _ _ _ _ _ _ _ _ _ _ _ _ _ _ _ _ _ _ _ _ _ _ _ _ _ _ _ _ _ _ _ _ _ _ _ _ _ _ _ _ _ _ _ _ _ _ _ _ _ _ _ _ _ _ _ _ _ _ _ _ _ _ _ _ _ _ _ _ _ _ _ _ _ _ _ _ _ _ _ _ _ _ _ _ _ _ _ _ _ _ _ _ _ _ _ _ _ _ _ _ _ _ _ _ _ _ _ _ _ _ _ _ _ _ _ _ _ _ _ _ _ _ _ _ _ _ _ _ _ _ _ _ _ _ _ _ _ _ _ _ _ _ _ _ _ _ _ _ _ _ _ _ _ _ _ _ _ _ _ _ _ _ _ _ _ _ _ _ _ _ _ _ _ _ _ _ _ _ _ _ _ _ _ _ _ _ _ _ _ _ _ _ _ _ _ _ _ _ _ _ _ _ _ _ _ _ _ _ _ _ _ _ _ _ _ _ _ _ _ _ _ _ _ _ _ _ _ _ _ _ _ _ _ _ _ _ _ _ _ R4 B4 Z4 HTT HNB HC4 HMP HSA h7  ?_
            refine Lib.hid ?_
            intros
            rename_i hpr
            go_wp2_with fail
            go_meet
            exact ⟨_, _, _, hpr⟩
          have HW : Hid (wh = 0 ∨ wh = 1 ∨ wh = 2) := by have := HMOD.out; show _ ∨ _; omega
          refine arm_write _ _ wh W _ i N (4 * k) M st own4 all A12 c12 wr.heap.size t an sa aw _ _ _ _ _ _ _ _ _ _ _ _ _ _ _ _ _ _ _ _ _ _ _ _ _ _ _ _ _ _ _ _ _ _ _ _ _ _ _ _ _ _ _ _ _ _ _ _ _ _ _ _ _ _ _ _ _ _ _ _ _ _ _ _ _ _ _ _ _ _ _ _ _ _ _ _ _ _ _ _ _ _ _ _ _ _ _ _ _ _ _ _ _ _ _ _ _ _ _ _ _ _ _ _ _ _ _ _ _ _ _ _ _ _ _ _ _ _ _ _ _ _ _ _ _ _ _ _ _ _ _ _ _ _ _ _ _ _ _ _ _ _ _ _ _ _ _ _ _ _ _ _ _ _ _ _ _ _ _ _ _ _ _ _ _ _ _ _ _ _ _ _ _ _ _ _ _ _ _ _ _ _ _ _ _ _ _ _ _ _ _ _ _ _ _ _ _ _ _ _ _ _ _ _ _ _ _ _ _ _ _ _ _ _ _ _ _ _ _ _ _ _ _ _ _ _ _ _ _ _ _ _ _ _ _ _ _ _ _ _ _ _ _ _ _ _ _ _ _ _ _ _ _ R4 B4 Z4 HTT HNB HC4 HMP HSA HW0 HW ?_ ?_
          · refine Lib.hid ?_
            intros
            rename_i hpr
            go_wp2_with fail
            go_meet
            exact ⟨_, _, _, hpr⟩
          · refine Lib.hid ?_
            intros
            rename_i hpr
            go_wp2_with fail
            go_roundg (gk - 1)
            case measure => omega
            case rel => exact ⟨k + 1, _, _, _, by omega, by go_num, hpr⟩
        case rest =>
          obtain ⟨st2, own2, all2, hpr⟩ := hcut
          have R5 := Lib.hid hpr
          clear hpr R4 B4 Z4 HTT HA
          have HKO := Lib.hid (kept_ok R5.out.sys)
          have HMN : Hid (st2.s.many = (all2.length : Int)) := R5.out.inv.1.many
          have hrl : decide (max (mo % 8) 1 < (st2.row.length : Int)) = false := by
            have h1 := R5.out.inv.2.row
            have h2 := R5.out.most
            have h3 := HMO.out
            simp
            omega
          obtain ⟨A13, c13, hv13, _, _, _⟩ := R5.out.mid.form
          subst hv13
          have hee : ((all2.length : Int) != (all2.length : Int)) = false := by simp
          go_wp2_with fail
          refine HKO.out.mono ?_
          rintro e w8 ⟨rfl, own8, h8, k8⟩
          have P8 := Lib.hid (R5.out.toPM.call h8 k8)
          have HSP := Lib.hid (space_ok h8)
          have HMY := Lib.hid (pmany_ok h8)
          rw [HMN.out] at HMY
          clear h8 k8 HKO
          go_wp2_with ((first | (refine HSP.out.mono ?_) | (refine HMY.out.mono ?_)); rintro e w9 ⟨rfl, rfl⟩)
          go_roundg (gk - 1)
          case measure => omega
          case rel => exact ⟨k + 1, st2, own8, all2, by omega, by go_num, ⟨P8.out, R5.out.ok, R5.out.inv, R5.out.most⟩⟩
    · have HBW := Lib.hid (below_of_keeps R.out.kp)
      clear R
      go_wp2_with fail
      all_goals
        go_ret
        exact ⟨rfl, HBW.out⟩

end Go.Proofs.YtimpjlnbbdfehaaGreatDoor
namespace Go.Proofs.YtimpjlnbbdfehaaGreatDoor
open Go.RowKit Go.Shelf Go.Lib Go.Sort
set_option linter.unusedVariables false
attribute [local go_sem ↓] shr_32_1 shl_32_1 shr_32_2 shl_32_2 shr_32_3 shl_32_3 shr_32_4 shl_32_4 shr_32_5 shl_32_5 shr_32_6 shl_32_6 shr_32_7 shl_32_7 shr_32_8 shl_32_8 shr_32_9 shl_32_9 shr_32_10 shl_32_10 shr_32_11 shl_32_11 shr_32_12 shl_32_12 shr_32_13 shl_32_13 shr_32_14 shl_32_14 shr_32_15 shl_32_15 shr_32_16 shl_32_16 shr_32_17 shl_32_17 shr_32_18 shl_32_18 shr_32_19 shl_32_19 shr_32_20 shl_32_20 shr_32_21 shl_32_21 shr_32_22 shl_32_22 shr_32_23 shl_32_23 shr_32_24 shl_32_24 shr_32_25 shl_32_25 shr_32_26 shl_32_26 shr_32_27 shl_32_27 shr_32_28 shl_32_28 shr_32_29 shl_32_29 shr_32_30 shl_32_30 shr_32_31 shl_32_31 shr_64_3 shl_64_3 shr_64_7 shl_64_7 shr_64_8 shl_64_8 shr_64_16 shl_64_16 shr_64_24 shl_64_24 shr_64_32 shl_64_32 shr_64_40 shl_64_40 shr_64_48 shl_64_48 shr_64_56 shl_64_56
attribute [local go_sem] add_u32 add_u64 and_u8 or_u8 xor_u8 and_u32 or_u32 xor_u32 and_u64 or_u64 xor_u64 conv_32_8 conv_64_8 conv_64_32 conv_8_32 conv_8_64 conv_32_64

open Go.ChangeShapes Go.WideShapes
section
variable {H : Type} {enc : TypeId × Value → H} {W : World} {base : Nat} {sp : Nat → Bool} {held : Bool}

theorem field_at {P : Program} {fuel : Nat} {t : TypeId} {cs : List Value} {x : DataW H × List MemPlace} {fs : Array Field} (ht : P.underlying t = some (.struct fs)) (h : DataW.trod enc P W base sp held fuel t cs = some x) :
    cs.length = P.cellsOf t ∧ ∀ (i : Nat) (f : Field), fs[i]? = some f → ∃ n y, DataW.trod enc P W base sp held n f.type ((cs.drop f.offset).take (P.cellsOf f.type)) = some y := by
  obtain ⟨xs, n, _, _, hl, hx, hf⟩ := DataW.trod_struct ht h
  refine ⟨hl, fun i f hi => ?_⟩
  have hlt : i < xs.length := by rw [hx]; exact (Array.getElem?_eq_some_iff.1 hi).1
  exact ⟨n, xs[i], (hf i f hi).trans (List.getElem?_eq_getElem hlt)⟩

/-- A slice, its elements each so many cells. -/
theorem open_sl {P : Program} {α : Type} {t e : TypeId} {fuel : Nat} {cs : List Value} {x : DataW H × List MemPlace} (cells : α → List Value) (n : Nat) (h0 : 0 < n) (hn : ∀ a, (cells a).length = n) (hce : P.cellsOf e = n) (ht : P.underlying t = some (.slice e)) (Q : α → Prop)
    (hE : ∀ (fuel : Nat) (cs : List Value) (y : DataW H × List MemPlace), DataW.trod enc P W base sp held fuel e cs = some y → ∃ a, cs = cells a ∧ Q a) (h : DataW.trod enc P W base sp held fuel t cs = some x) :
    ∃ (A : Option Addr) (xs : List α) (c : Nat), cs = [.slice A xs.length c] ∧ xs.length ≤ maxLen ∧ (∀ a ∈ xs, Q a) ∧
      (xs = [] ∨ ∃ g o, A = some ⟨g, o, none⟩ ∧ g < W.heap.size ∧ ∀ (i : Nat) (h : i < xs.length) (k : Nat) (u : Value), (cells xs[i])[k]? = some u → W.cell? ⟨g, o + i * n + k, none⟩ = some u) := by
  rcases DataW.trod_slice ht h with ⟨rfl, _⟩ | ⟨a, len, cap, elems, rest, m, _, rfl, _, _, hl, hm, hlen, hel, _, _⟩
  · exact ⟨none, [], 0, rfl, Nat.zero_le _, (fun a ha => by cases ha), .inl rfl⟩
  · have each : ∀ i, i < len → ∃ z : α, Q z ∧ ∀ k u, (cells z)[k]? = some u → W.cell? (a.add (i * n + k)) = some u := by
      intro i hi
      have he := hel i hi
      rw [hce, List.getElem?_eq_getElem (by omega), Option.bind_eq_some_iff] at he
      obtain ⟨cs', hc, hy⟩ := he
      obtain ⟨z, rfl, hq⟩ := hE _ _ _ hy
      obtain ⟨_, _, hat⟩ := World.cells?_some hc
      refine ⟨z, hq, fun k u hk => ?_⟩
      have hkn : k < n := by rw [← hn z]; exact (List.getElem?_eq_some_iff.1 hk).1
      rw [← add_of_add, hat k hkn, hk]
    have hlist : ∀ m, m ≤ len → ∃ xs : List α, xs.length = m ∧ (∀ z ∈ xs, Q z) ∧ ∀ (i : Nat) (h : i < xs.length) (k : Nat) (u : Value), (cells xs[i])[k]? = some u → W.cell? (a.add (i * n + k)) = some u := by
      intro m
      induction m with
      | zero => intro _; exact ⟨[], rfl, (fun z hz => by cases hz), fun i h => absurd h (Nat.not_lt_zero i)⟩
      | succ m ih =>
        intro hm
        obtain ⟨xs, hxl, hq, hc⟩ := ih (by omega)
        obtain ⟨z, hz, hzc⟩ := each m (by omega)
        refine ⟨xs ++ [z], by simp [hxl], fun y hy => ?_, fun i h k u hk => ?_⟩
        · rcases List.mem_append.1 hy with h | h
          · exact hq y h
          · rw [List.mem_singleton.1 h]; exact hz
        · by_cases hi : i < xs.length
          · rw [List.getElem_append_left hi] at hk
            exact hc i hi k u hk
          · obtain rfl : i = m := by simp [hxl] at h; omega
            rw [List.getElem_append_right (by omega)] at hk
            simp only [hxl, Nat.sub_self, List.getElem_cons_zero] at hk
            exact hzc k u hk
    obtain ⟨xs, hxl, hq, hc⟩ := hlist len (Nat.le_refl _)
    refine ⟨some a, xs, cap, by rw [hxl], by omega, hq, ?_⟩
    rcases Nat.eq_zero_or_pos xs.length with hz | hz
    · exact .inl (List.eq_nil_of_length_eq_zero hz)
    · right
      have h00 := hc 0 hz 0 ((cells xs[0])[0]'(by rw [hn]; exact h0)) (List.getElem?_eq_getElem _)
      rw [Nat.zero_mul] at h00
      have e0 : a.add (0 + 0) = a := by simp [Addr.add]
      rw [e0] at h00
      have hsp := World.cell?_spot h00
      have hlt := World.block_lt_of_cell? W _ h00
      obtain ⟨g, o, s⟩ := a
      simp only at hsp hlt
      subst hsp
      refine ⟨g, o, rfl, hlt, fun i h k u hk => ?_⟩
      have := hc i h k u hk
      rwa [add_at, ← Nat.add_assoc] at this
theorem three {cs : List Value} (h : cs.length = 3) : ∃ a b c, cs = [a, b, c] := by match cs, h with | [a, b, c], _ => exact ⟨a, b, c, rfl⟩
theorem i64_in {x : Int} (w : (Lit.int .i64 x).wf = true) : I64 x := by
  show _ ∧ _
  simpa [Lit.wf, IntKind.min, IntKind.max, IntKind.signed, IntKind.bits] using w

theorem cz71 : Tryz.prog.cellsOf 71 = 3 := by kernel_rfl
theorem cz3 : Tryz.prog.cellsOf 3 = 1 := by kernel_rfl
theorem cz9 : Tryz.prog.cellsOf 9 = 1 := by kernel_rfl
theorem open_act (fuel : Nat) (cs : List Value) (x : DataW H × List MemPlace) (h : DataW.trod enc Tryz.prog W base sp held fuel 71 cs = some x) : ∃ v : ActP, cs = v.cells ∧ (v.s.size ≤ maxLen ∧ I64 v.n) := by
  obtain ⟨hl, hf⟩ := field_at Tryz.underlying71 h
  rw [cz71] at hl
  obtain ⟨a, b, c, rfl⟩ := three hl
  obtain ⟨n0, y0, h0⟩ := hf 0 _ rfl
  obtain ⟨n1, y1, h1⟩ := hf 1 _ rfl
  obtain ⟨n2, y2, h2⟩ := hf 2 _ rfl
  simp only [cz3, cz9, List.getElem_toArray, List.getElem_cons_zero, List.getElem_cons_succ, List.drop_zero, List.drop_succ_cons, List.take_succ_cons, List.take_zero] at h0 h1 h2
  obtain ⟨k, e0, _, w0⟩ := DataW.trod_int Tryz.underlying3 h0
  obtain ⟨m, e1, _, w1⟩ := DataW.trod_int Tryz.underlying3 h1
  obtain ⟨s, e2, _, w2⟩ := DataW.trod_string Tryz.underlying9 h2
  simp only [List.cons.injEq, and_true] at e0 e1 e2
  subst e0; subst e1; subst e2
  exact ⟨⟨k, m, s⟩, rfl, w2, i64_in w1⟩
end
/-- A value that is a slice of acts. -/
def ActsV (W : World) (v : Value) : Prop := ∃ A cap zs, v = .slice A zs.length cap ∧ zs.length ≤ 9223372036854775807 ∧ (∀ a ∈ zs, a.s.size ≤ maxLen) ∧ (∀ a ∈ zs, I64 a.n) ∧ Row W A (actsC zs)
set_option maxRecDepth 100000 in
theorem open_actsV {H : Type} {enc : TypeId × Value → H} {w : World} {r : Reach} {b0 : Nat} {v : Value} {d : DataW H} {p : List MemPlace}
    (hv : Value.okWide Tryz.prog w r b0 68 v) (h : DataW.Trod enc Tryz.prog w 0 (fun _ => true) true 68 v d p) : ActsV w v := by
  obtain ⟨A0, n0, c0, rfl⟩ := okWide_slice Tryz.underlying68 hv
  obtain ⟨fuel, hf⟩ := h
  obtain ⟨A, xs, c, hcs, hl, hq, hrow⟩ := open_sl ActP.cells 3 (by decide) (fun _ => rfl) cz71 Tryz.underlying68 (fun a => a.s.size ≤ maxLen ∧ I64 a.n) (fun fuel cs y hy => open_act fuel cs y hy) hf
  simp [Value.cells] at hcs
  obtain ⟨rfl, rfl, rfl⟩ := hcs
  refine ⟨A0, c0, xs, rfl, by simpa [maxLen] using hl, fun a ha => (hq a ha).1, fun a ha => (hq a ha).2, ?_⟩
  rcases hrow with rfl | ⟨g, o, rfl, hg, hc⟩
  · exact fun hn => absurd hn (by simp [actsC])
  · refine fun _ => ⟨_, rfl, fun j u hj => ?_⟩
    have hjl := (List.getElem?_eq_some_iff.1 hj).1
    rw [actsC_len] at hjl
    have hi : j / 3 < xs.length := by omega
    have e : j = j / 3 * 3 + j % 3 := by omega
    have hg2 := actsC_get xs (j / 3) hi (j % 3) (by omega)
    rw [← e, hj] at hg2
    have := hc (j / 3) hi (j % 3) u hg2.symm
    rw [add_at]
    rw [Nat.add_assoc, ← e] at this
    exact this
theorem pagerPlays_walk (W : World) (hT : Salts W) (bl : Int) (_ : (Lit.int .i64 bl).wf = true) (mo : Int) (_ : (Lit.int .i64 mo).wf = true) (v : Value) (o : ActsV W v) : Calls Tryz.prog 7 #[.int .i64 bl, .int .i64 mo, v] W fun e w' => e = .returned (.bool true) ∧ Below W.heap.size W w' := by
  obtain ⟨A, cap, zs, rfl, hl, h1, h2, hr⟩ := o
  exact plays_walk bl mo A cap zs hl h1 h2 W hr hT

end Go.Proofs.YtimpjlnbbdfehaaGreatDoor
