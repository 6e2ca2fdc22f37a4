import Derived.Test.YtngcflhhkkpepaaW2
import Derived.Deep.LoopGhost
import Derived.Deep.CutBlock
import Derived.Deep.DeepCutAuto
namespace Go.Proofs.Ytngcflhhkkpepaa
open Go.RowKit

def cnt (bs : List Bool) : Nat := bs.count true
theorem cnt_le (bs : List Bool) : cnt bs ≤ bs.length := List.count_le_length
theorem cnt_set_true (bs : List Bool) (k : Nat) (h : k < bs.length) (hf : bs.getD k false = false) : cnt (bs.set k true) = cnt bs + 1 := by
  unfold cnt
  rw [List.count_set h]
  have e : bs[k] = false := by simpa [h] using hf
  simp [e]
theorem cnt_set_false (bs : List Bool) (k : Nat) (h : k < bs.length) (hf : bs.getD k false = true) : cnt (bs.set k false) + 1 = cnt bs := by
  unfold cnt
  have e : bs[k] = true := by simpa [h] using hf
  have hp : 0 < bs.count true := List.count_pos_iff.2 (e ▸ List.getElem_mem h)
  rw [List.count_set h]
  simp [e]
  omega

/-- A list of acts: two ints each. -/
def Acts (w : World) (A : Option Addr) (n : Nat) : Prop :=
  ∀ i, i < n → ∃ ad x y, A = some ad ∧ ad.block < w.heap.size ∧ w.cell? (ad.add (i * 2)) = some (.int .i64 x) ∧ w.cell? ⟨(ad.add (i * 2)).block, (ad.add (i * 2)).off + 1, none⟩ = some (.int .i64 y)

theorem block_of_add (a : Addr) (n : Nat) : (a.add n).block = a.block := by unfold Addr.add; split <;> rfl

/-- Which place the law looks for. -/
def Least (bs : List Bool) (F : Nat) (want : Int) : Prop :=
  (want = -1 ∧ ∀ i, F ≤ i → i < bs.length → bs.getD i false = true) ∨
  ∃ K : Nat, want = K ∧ F ≤ K ∧ K < bs.length ∧ bs.getD K false = false ∧ ∀ i, F ≤ i → i < K → bs.getD i false = true
theorem Least.none_ (bs : List Bool) : Least bs bs.length (-1) := .inl ⟨rfl, fun i h1 h2 => by omega⟩
theorem Least.hit {bs : List Bool} {F : Nat} (h : F < bs.length) (hf : bs.getD F false = false) : Least bs F F := .inr ⟨F, rfl, Nat.le_refl _, h, hf, fun i h1 h2 => by omega⟩
theorem Least.miss {bs : List Bool} {F : Nat} {x : Int} (hf : bs.getD F false = true) (hl : Least bs (F + 1) x) : Least bs F x := by
  rcases hl with ⟨rfl, h⟩ | ⟨K, rfl, h1, h2, h3, h4⟩
  · refine .inl ⟨rfl, fun i hi hl => ?_⟩
    by_cases e : i = F
    · subst e; exact hf
    · exact h i (by omega) hl
  · refine .inr ⟨K, rfl, by omega, h2, h3, fun i hi hl => ?_⟩
    by_cases e : i = F
    · subst e; exact hf
    · exact h4 i (by omega) hl

/-- How space and law stand between two acts. -/
structure St (w wr : World) (p b tb nn F : Nat) (bs : List Bool) : Prop where
  len : bs.length = nn
  sp : Sp wr p b bs (F : Int) (cnt bs : Nat)
  tk : Blk wr tb 4 (bv bs)
  bw : Below w.heap.size w wr

theorem St.set_ {w wr w3 : World} {p b tb nn F j : Nat} {bs : List Bool} {x : Bool} {c : Int} (h : St w wr p b tb nn F bs) (hs : Sp w3 p b (bs.set j x) (F : Int) c) (ho : Only wr w3 [p, b])
    (hp : w.heap.size ≤ p) (hb : w.heap.size ≤ b) (ht : w.heap.size ≤ tb) (hpt : p ≠ tb) (hbt : b ≠ tb) (hc : c = (cnt (bs.set j x) : Nat)) :
    St w (w3.setCell ⟨tb, j, none⟩ (.bool x)) p b tb nn F (bs.set j x) := by
  subst hc
  refine ⟨by simpa using h.len, hs.only (S := [tb]) ((Only.refl _ _).setCell (by simp) _) (by simpa using hpt) (by simpa using hbt), ?_, (h.bw.trans (ho.below h.bw.size (by simp; omega))).setCell ht _⟩
  have := (ho.blk h.tk (by simp; omega)).set_ j (.bool x)
  rwa [bv_set] at this

set_option maxHeartbeats 4000000 in
set_option maxRecDepth 100000 in
theorem plays_walk (places first : Int) (A : Option Addr) (N C : Nat) (w : World) (_ : N ≤ 9223372036854775807) (hacts : Acts w A N) :
    Calls Try.prog 3 #[.int .i64 places, .int .i64 first, .slice A N C] w fun e w' => e = .returned (.bool true) ∧ Below w.heap.size w w' := by
  obtain ⟨i0, hi0, hz0, hz1, hz2⟩ := info_parts info4
  obtain ⟨nn, hnn⟩ := Int.eq_ofNat_of_zero_le (show 0 ≤ places % 32 by omega)
  obtain ⟨ff, hff⟩ := Int.eq_ofNat_of_zero_le (show 0 ≤ first % 16 by omega)
  have hb31 : bits .and .i64 places 31 = (nn : Int) := by rw [and31]; exact hnn
  have hb15 : bits .and .i64 first 15 = (ff : Int) := by rw [and15]; exact hff
  have hn32 : nn < 32 := by omega
  have hf16 : ff < 16 := by omega
  clear hnn hff
  have HN := Lib.hid new_any
  have HAW := Lib.hid awake_ok
  have HAC := Lib.hid hacts
  have hmk := fun (w1 : World) => run_make (P := Try.prog) w1 25 4 i0 (.bool false) Try.underlying25 hi0 hz0 .i64 .i64 nn nn (by omega) (Int.le_refl _) (by rw [hz2]; omega) (by omega)
  simp only [hz1, Nat.mul_one, Value.cells, made_false, Int.toNat_natCast] at hmk
  clear hacts hi0 hz0 hz1 hz2
  go_enter Try.func3, Try.ntmps3
  go_upto_if 28 with (go_at_call 5; refine (HN.out _ _ w (by omega)).mono ?_; rintro e w1 ⟨p, b, rfl, hp, hb, hs, ho⟩; have HS := Lib.hid hs; have HO := Lib.hid ho; clear hs ho)
  go_cut [8] (fun f wx => w1 = wx ∧ f = .int .i64 ((min ff nn : Nat) : Int))
  case first =>
    by_cases h : nn < ff
    all_goals
      go_wp2
      go_meet
      exact ⟨rfl, by congr 1; omega⟩
  case rest =>
    obtain ⟨rfl, rfl⟩ := hcut
    obtain ⟨F, hF⟩ : ∃ F, min ff nn = F := ⟨_, rfl⟩
    have hFn : F ≤ nn := by omega
    have hs1 : Sp w1 p b (List.replicate nn false) (F : Int) 0 := by
      have h := HS.out
      rw [show min (max (ff : Int) 0) (max (nn : Int) 0) = (F : Int) by omega, Int.toNat_natCast] at h
      exact h
    rw [hF]
    clear hF
    have HS1 := Lib.hid hs1
    have H1 : Hid (Only w w1 []) := HO.out
    clear HS HO hs1
    go_wp2_with (go_at_call 6; refine (HAW.out _).mono ?_; rintro e w2 ⟨rfl, ho⟩; have H2 := Lib.hid ho; clear ho)
    have HO2 : Hid (Only (w1.alloc (.cells (bv (List.replicate nn false)) 4)) w2 []) := H2.out
    have HSb : Hid (Sp w2 p b (List.replicate nn false) (F : Int) 0) := (HS1.out.only ((Only.refl w1 []).alloc _) (by simp) (by simp)).only HO2.out (by simp) (by simp)
    have HTb : Hid (Blk w2 w1.heap.size 4 (bv (List.replicate nn false))) := HO2.out.blk (Blk.new w1 4 _) (by simp)
    have HB : Hid (Below w.heap.size w w2) := ((H1.out.alloc _).trans HO2.out).below (Nat.le_refl _) (by simp)
    have hp1 : p ≠ w1.heap.size ∧ b ≠ w1.heap.size := ⟨Nat.ne_of_lt HS1.out.head.lt, Nat.ne_of_lt HS1.out.row.lt⟩
    have ht : w.heap.size ≤ w1.heap.size := H1.out.size
    obtain ⟨hpt, hbt⟩ := hp1
    clear HS1 H1 H2 HO2
    generalize w1.heap.size = tb at *
    go_loopg [11, 12] 80 (fun g m i wr => ∃ (k : Nat) (bs : List Bool), g + k = 80 ∧ i = .int .i64 k ∧ m = .int .i64 (cnt bs : Nat) ∧ bs.length = nn ∧ Sp wr p b bs (F : Int) (cnt bs : Nat) ∧ Blk wr tb 4 (bv bs) ∧ Below w.heap.size w wr)
    case atStart =>
      have e : cnt (List.replicate nn false) = 0 := by simp [cnt, List.count_replicate]
      refine ⟨0, List.replicate nn false, rfl, rfl, ?_, by simp, ?_, HTb.out, HB.out⟩
      · rw [e]; rfl
      · rw [e]; exact HSb.out
    case round =>
      clear HSb HTb HB
      obtain ⟨k, bs, hk, rfl, rfl, hlen, hsp, htk, hbw⟩ := hrel
      have hcn := cnt_le bs
      have HSP := Lib.hid hsp
      have HTK := Lib.hid htk
      have HBW := Lib.hid hbw
      have HLEN := Lib.hid hlen
      have hcn2 : cnt bs ≤ nn := by omega
      clear hsp htk hbw hlen hcn
      by_cases hlt : k < N ∧ k < 80
      · obtain ⟨hkN, hk80⟩ := hlt
        obtain ⟨ad, x, y, rfl, hadb, hx, hy⟩ := HAC.out k hkN
        have hx' : wr.cell? (ad.add (k * 2)) = some (.int .i64 x) := (HBW.out.cell (by rw [block_of_add]; exact hadb)).trans hx
        have hy' : wr.cell? ⟨(ad.add (k * 2)).block, (ad.add (k * 2)).off + 1, none⟩ = some (.int .i64 y) := (HBW.out.cell (by show (ad.add (k * 2)).block < _; rw [block_of_add]; exact hadb)).trans hy
        clear hx hy
        have hb3 := and3 x
        have HST : Hid (St w wr p b tb nn F bs) := ⟨HLEN.out, HSP.out, HTK.out, HBW.out⟩
        have HDN := Lib.hid (fun (hn : ¬ ((F : Int) ≤ y ∧ y < (bs.length : Int))) => drop_no HSP.out hn)
        have HUN := Lib.hid (fun (hn : ¬ ((F : Int) ≤ y ∧ y < (bs.length : Int))) => use_no HSP.out hn)
        have hnl : nn = bs.length := HLEN.out.symm
        have HNL := Lib.hid hnl
        clear hnl
        by_cases hin : (F : Int) ≤ y ∧ y < (nn : Int)
        · obtain ⟨hin1, hin2⟩ := hin
          obtain ⟨j, rfl⟩ := Int.eq_ofNat_of_zero_le (show 0 ≤ y by omega)
          have hj : j < nn := by omega
          have hcell : wr.cell? ⟨tb, j, none⟩ = some (.bool (bs.getD j false)) := by rw [← bv_get bs j (by rw [← HNL.out]; exact hj)]; exact HTK.out.cell j
          clear HDN HUN
          go_upto_block 2 with fail
          go_cut [11] (fun m wx => ∃ bs', m = .int .i64 (cnt bs' : Nat) ∧ St w wx p b tb nn F bs')
          case first =>
            have hjb : Hid (j < bs.length) := by rw [← HNL.out]; exact hj
            by_cases h2 : x % 4 = 2
            · have h2b : (x % 4 == 2) = true := by simpa using h2
              clear h2
              by_cases hf : bs.getD j false = true
              · rw [hf] at hcell
                have HF := Lib.hid hf
                clear hf
                go_wp2_with (go_at_call 7; refine (use_taken j HSP.out hin1 hjb.out HF.out).mono ?_; rintro e w' ⟨rfl, rfl⟩)
                go_meet
                exact ⟨bs, rfl, HST.out⟩
              · have hf' : bs.getD j false = false := by simpa using hf
                rw [hf'] at hcell
                have HF := Lib.hid hf'
                clear hf hf'
                go_wp2_with (go_at_call 7; refine (use_yes j HSP.out hin1 hjb.out HF.out (by omega) (by omega)).mono ?_; rintro e w3 ⟨rfl, hs, ho⟩; have HS3 := Lib.hid hs; have HO3 := Lib.hid ho; have hc3 := (HO3.out.blk HTK.out (by simp; omega)).cell j; have hf3 := (HO3.out.blk HTK.out (by simp; omega)).frozen j; rw [bv_get bs j hjb.out] at hc3; clear hs ho)
                go_meet
                have hcn := cnt_set_true bs j hjb.out HF.out
                exact ⟨bs.set j true, by rw [hcn]; rfl, HST.out.set_ HS3.out HO3.out hp hb ht hpt hbt (by rw [hcn]; rfl)⟩
            · have h2b : (x % 4 == 2) = false := by simpa using h2
              clear h2
              by_cases h3 : x % 4 = 3
              · have h3b : (x % 4 == 3) = true := by simpa using h3
                clear h3
                by_cases hf : bs.getD j false = true
                · rw [hf] at hcell
                  have HF := Lib.hid hf
                  clear hf
                  go_wp2_with (go_at_call 8; refine (drop_yes j HSP.out hin1 hjb.out HF.out (by omega) (by omega)).mono ?_; rintro e w3 ⟨rfl, hs, ho⟩; have HS3 := Lib.hid hs; have HO3 := Lib.hid ho; have hc3 := (HO3.out.blk HTK.out (by simp; omega)).cell j; have hf3 := (HO3.out.blk HTK.out (by simp; omega)).frozen j; rw [bv_get bs j hjb.out] at hc3; clear hs ho)
                  go_meet
                  have hcn := cnt_set_false bs j hjb.out HF.out
                  exact ⟨bs.set j false, by congr 1; omega, HST.out.set_ HS3.out HO3.out hp hb ht hpt hbt (by omega)⟩
                · have hf' : bs.getD j false = false := by simpa using hf
                  rw [hf'] at hcell
                  have HF := Lib.hid hf'
                  clear hf hf'
                  go_wp2_with (go_at_call 8; refine (drop_free j HSP.out hin1 hjb.out HF.out).mono ?_; rintro e w' ⟨rfl, rfl⟩)
                  go_meet
                  exact ⟨bs, rfl, HST.out⟩
              · have h3b : (x % 4 == 3) = false := by simpa using h3
                clear h3
                go_wp2_with fail
                go_loopg [17, 18] (nn - F) (fun g want q wx => ∃ (z : Nat) (v : Int), g + F = z ∧ F ≤ z ∧ z ≤ nn ∧ q = .int .i64 ((z : Int) - 1) ∧ want = .int .i64 v ∧ Least bs z v ∧ wr = wx)
                case atStart => exact ⟨nn, -1, (by omega), hFn, Nat.le_refl _, rfl, rfl, (by rw [HNL.out]; exact Least.none_ bs), rfl⟩
                case round =>
                  obtain ⟨z, v, hgz, hFz, hzn, rfl, rfl, hL, rfl⟩ := hrel
                  have HL := Lib.hid hL
                  clear hL
                  by_cases hz : F < z
                  · obtain ⟨y2, rfl⟩ : ∃ y2, z = y2 + 1 := ⟨z - 1, by omega⟩
                    have hyl : y2 < bs.length := by rw [← HNL.out]; omega
                    have hcz : wr.cell? ⟨tb, y2, none⟩ = some (.bool (bs.getD y2 false)) := by rw [← bv_get bs y2 hyl]; exact HTK.out.cell y2
                    have HYL := Lib.hid hyl
                    clear hyl
                    by_cases hf : bs.getD y2 false = true
                    · rw [hf] at hcz
                      have HF := Lib.hid hf
                      clear hf
                      go_wp2_with fail
                      go_roundg (gk - 1)
                      case measure => omega
                      case rel => exact ⟨y2, v, by omega, by omega, by omega, by go_num, rfl, Least.miss HF.out HL.out, rfl⟩
                    · have hf' : bs.getD y2 false = false := by simpa using hf
                      rw [hf'] at hcz
                      have HF := Lib.hid hf'
                      clear hf hf'
                      go_wp2_with fail
                      go_roundg (gk - 1)
                      case measure => omega
                      case rel => exact ⟨y2, y2, by omega, by omega, by omega, by go_num, by go_num, Least.hit HYL.out HF.out, rfl⟩
                  · obtain rfl : z = F := by omega
                    rcases HL.out with ⟨rfl, hall⟩ | ⟨K, rfl, hK1, hK2, hK3, hK4⟩
                    · have HA := Lib.hid hall
                      clear hall
                      go_wp2_with (go_at_call 9; refine (take_none z HSP.out (by rw [← HNL.out]; exact hzn) (by rw [← HNL.out]; omega) HA.out).mono ?_; rintro e w' ⟨rfl, rfl⟩)
                      go_meet
                      exact ⟨bs, rfl, HST.out⟩
                    · have HA := Lib.hid hK4
                      have hKn : K < nn := by rw [HNL.out]; exact hK2
                      have HF := Lib.hid hK3
                      have HK2 := Lib.hid hK2
                      clear hK4 hK3 hK2
                      go_wp2_with (go_at_call 9; refine (take_some z K HSP.out hK1 HK2.out (by rw [← HNL.out]; omega) HA.out HF.out (by omega) (by omega)).mono ?_; rintro e w3 ⟨rfl, hs, ho⟩; have HS3 := Lib.hid hs; have HO3 := Lib.hid ho; have hc3 := (HO3.out.blk HTK.out (by simp; omega)).cell K; have hf3 := (HO3.out.blk HTK.out (by simp; omega)).frozen K; rw [bv_get bs K HK2.out] at hc3; clear hs ho)
                      go_meet
                      have hcn := cnt_set_true bs K HK2.out HF.out
                      exact ⟨bs.set K true, by rw [hcn]; rfl, HST.out.set_ HS3.out HO3.out hp hb ht hpt hbt (by rw [hcn]; rfl)⟩
          case rest =>
            obtain ⟨bs', rfl, hst⟩ := hcut
            have HM := Lib.hid (many_any hst.sp)
            have hcn' := cnt_le bs'
            rw [hst.len] at hcn'
            have HF := Lib.hid (free_any hst.sp (by omega) (by rw [hst.len]; omega) (by omega) (by omega) (by rw [hst.len]; omega))
            rw [hst.len] at HF
            have hc' : wc.cell? ⟨tb, j, none⟩ = some (.bool (bs'.getD j false)) := by rw [← bv_get bs' j (by rw [hst.len]; exact hj)]; exact hst.tk.cell j
            have HT := Lib.hid (fun q => taken_any (n := (j : Int)) (hst.sp.only ((Only.refl wc []).drewN q) (by simp) (by simp)) (by omega))
            rw [hst.len, show (decide ((F : Int) ≤ (j : Int)) && decide ((j : Int) < (nn : Int))) = true by simp; omega, Bool.true_and, Int.toNat_natCast] at HT
            have HBW' := Lib.hid hst.bw
            have HST' := Lib.hid hst
            clear hst HST HSP HTK HBW HAC
            go_wp2_with (first
              | (go_at_call 10; refine HM.out.mono ?_; rintro e w' ⟨rfl, rfl⟩)
              | (go_at_call 11; refine HF.out.mono ?_; rintro e w' ⟨rfl, q, rfl⟩)
              | (go_at_call 12; refine (HT.out _).mono ?_; rintro e w' ⟨rfl, rfl⟩))
            go_roundg (gk - 1)
            case measure => omega
            case rel => exact ⟨k + 1, bs', by omega, by go_num, rfl, HST'.out.len, HST'.out.sp.only ((Only.refl wc []).drewN _) (by simp) (by simp), HST'.out.tk, HST'.out.bw.trans (((Only.refl wc []).drewN _).below (B := w.heap.size) HST'.out.bw.size (by simp))⟩
        · have HNI : Hid (¬ ((F : Int) ≤ y ∧ y < (bs.length : Int))) := by rw [← HNL.out]; exact hin
          have HBO : Hid ((decide ((F : Int) ≤ y) && decide (y < (nn : Int))) = false) := by show _ = _; simpa using hin
          by_cases hin1 : (F : Int) ≤ y
          · have hin2 : ¬ y < (nn : Int) := fun h => hin ⟨hin1, h⟩
            clear hin
            go_upto_block 2 with fail
            go_cut [11] (fun m wx => ∃ bs', m = .int .i64 (cnt bs' : Nat) ∧ St w wx p b tb nn F bs')
            case first =>
              by_cases h2 : x % 4 = 2
              · have h2b : (x % 4 == 2) = true := by simpa using h2
                clear h2
                go_wp2_with (go_at_call 7; refine (HUN.out HNI.out).mono ?_; rintro e w' ⟨rfl, rfl⟩)
                go_meet
                exact ⟨bs, rfl, HST.out⟩
              · have h2b : (x % 4 == 2) = false := by simpa using h2
                clear h2
                by_cases h3 : x % 4 = 3
                · have h3b : (x % 4 == 3) = true := by simpa using h3
                  clear h3
                  go_wp2_with (go_at_call 8; refine (HDN.out HNI.out).mono ?_; rintro e w' ⟨rfl, rfl⟩)
                  go_meet
                  exact ⟨bs, rfl, HST.out⟩
                · have h3b : (x % 4 == 3) = false := by simpa using h3
                  clear h3
                  go_wp2_with fail
                  go_loopg [17, 18] (nn - F) (fun g want q wx => ∃ (z : Nat) (v : Int), g + F = z ∧ F ≤ z ∧ z ≤ nn ∧ q = .int .i64 ((z : Int) - 1) ∧ want = .int .i64 v ∧ Least bs z v ∧ wr = wx)
                  case atStart => exact ⟨nn, -1, (by omega), hFn, Nat.le_refl _, rfl, rfl, (by rw [HNL.out]; exact Least.none_ bs), rfl⟩
                  case round =>
                    obtain ⟨z, v, hgz, hFz, hzn, rfl, rfl, hL, rfl⟩ := hrel
                    have HL := Lib.hid hL
                    clear hL
                    by_cases hz : F < z
                    · obtain ⟨y2, rfl⟩ : ∃ y2, z = y2 + 1 := ⟨z - 1, by omega⟩
                      have hyl : y2 < bs.length := by rw [← HNL.out]; omega
                      have hcz : wr.cell? ⟨tb, y2, none⟩ = some (.bool (bs.getD y2 false)) := by rw [← bv_get bs y2 hyl]; exact HTK.out.cell y2
                      have HYL := Lib.hid hyl
                      clear hyl
                      by_cases hf : bs.getD y2 false = true
                      · rw [hf] at hcz
                        have HF := Lib.hid hf
                        clear hf
                        go_wp2_with fail
                        go_roundg (gk - 1)
                        case measure => omega
                        case rel => exact ⟨y2, v, by omega, by omega, by omega, by go_num, rfl, Least.miss HF.out HL.out, rfl⟩
                      · have hf' : bs.getD y2 false = false := by simpa using hf
                        rw [hf'] at hcz
                        have HF := Lib.hid hf'
                        clear hf hf'
                        go_wp2_with fail
                        go_roundg (gk - 1)
                        case measure => omega
                        case rel => exact ⟨y2, y2, by omega, by omega, by omega, by go_num, by go_num, Least.hit HYL.out HF.out, rfl⟩
                    · obtain rfl : z = F := by omega
                      rcases HL.out with ⟨rfl, hall⟩ | ⟨K, rfl, hK1, hK2, hK3, hK4⟩
                      · have HA := Lib.hid hall
                        clear hall
                        go_wp2_with (go_at_call 9; refine (take_none z HSP.out (by rw [← HNL.out]; exact hzn) (by rw [← HNL.out]; omega) HA.out).mono ?_; rintro e w' ⟨rfl, rfl⟩)
                        go_meet
                        exact ⟨bs, rfl, HST.out⟩
                      · have HA := Lib.hid hK4
                        have hKn : K < nn := by rw [HNL.out]; exact hK2
                        have HF := Lib.hid hK3
                        have HK2 := Lib.hid hK2
                        clear hK4 hK3 hK2
                        go_wp2_with (go_at_call 9; refine (take_some z K HSP.out hK1 HK2.out (by rw [← HNL.out]; omega) HA.out HF.out (by omega) (by omega)).mono ?_; rintro e w3 ⟨rfl, hs, ho⟩; have HS3 := Lib.hid hs; have HO3 := Lib.hid ho; have hc3 := (HO3.out.blk HTK.out (by simp; omega)).cell K; have hf3 := (HO3.out.blk HTK.out (by simp; omega)).frozen K; rw [bv_get bs K HK2.out] at hc3; clear hs ho)
                        go_meet
                        have hcn := cnt_set_true bs K HK2.out HF.out
                        exact ⟨bs.set K true, by rw [hcn]; rfl, HST.out.set_ HS3.out HO3.out hp hb ht hpt hbt (by rw [hcn]; rfl)⟩
            case rest =>
              obtain ⟨bs', rfl, hst⟩ := hcut
              have HM := Lib.hid (many_any hst.sp)
              have hcn' := cnt_le bs'
              rw [hst.len] at hcn'
              have HF := Lib.hid (free_any hst.sp (by omega) (by rw [hst.len]; omega) (by omega) (by omega) (by rw [hst.len]; omega))
              rw [hst.len] at HF
              have HT := Lib.hid (fun q => taken_any (n := y) (hst.sp.only ((Only.refl wc []).drewN q) (by simp) (by simp)) (by omega))
              rw [hst.len, HBO.out, Bool.false_and] at HT
              have HBW' := Lib.hid hst.bw
              have HST' := Lib.hid hst
              clear hst HST HSP HTK HBW HAC
              go_wp2_with (first
                | (go_at_call 10; refine HM.out.mono ?_; rintro e w' ⟨rfl, rfl⟩)
                | (go_at_call 11; refine HF.out.mono ?_; rintro e w' ⟨rfl, q, rfl⟩)
                | (go_at_call 12; refine (HT.out _).mono ?_; rintro e w' ⟨rfl, rfl⟩))
              go_roundg (gk - 1)
              case measure => omega
              case rel => exact ⟨k + 1, bs', by omega, by go_num, rfl, HST'.out.len, HST'.out.sp.only ((Only.refl wc []).drewN _) (by simp) (by simp), HST'.out.tk, HST'.out.bw.trans (((Only.refl wc []).drewN _).below (B := w.heap.size) HST'.out.bw.size (by simp))⟩
          · clear hin
            go_upto_block 2 with fail
            go_cut [11] (fun m wx => ∃ bs', m = .int .i64 (cnt bs' : Nat) ∧ St w wx p b tb nn F bs')
            case first =>
              by_cases h2 : x % 4 = 2
              · have h2b : (x % 4 == 2) = true := by simpa using h2
                clear h2
                go_wp2_with (go_at_call 7; refine (HUN.out HNI.out).mono ?_; rintro e w' ⟨rfl, rfl⟩)
                go_meet
                exact ⟨bs, rfl, HST.out⟩
              · have h2b : (x % 4 == 2) = false := by simpa using h2
                clear h2
                by_cases h3 : x % 4 = 3
                · have h3b : (x % 4 == 3) = true := by simpa using h3
                  clear h3
                  go_wp2_with (go_at_call 8; refine (HDN.out HNI.out).mono ?_; rintro e w' ⟨rfl, rfl⟩)
                  go_meet
                  exact ⟨bs, rfl, HST.out⟩
                · have h3b : (x % 4 == 3) = false := by simpa using h3
                  clear h3
                  go_wp2_with fail
                  go_loopg [17, 18] (nn - F) (fun g want q wx => ∃ (z : Nat) (v : Int), g + F = z ∧ F ≤ z ∧ z ≤ nn ∧ q = .int .i64 ((z : Int) - 1) ∧ want = .int .i64 v ∧ Least bs z v ∧ wr = wx)
                  case atStart => exact ⟨nn, -1, (by omega), hFn, Nat.le_refl _, rfl, rfl, (by rw [HNL.out]; exact Least.none_ bs), rfl⟩
                  case round =>
                    obtain ⟨z, v, hgz, hFz, hzn, rfl, rfl, hL, rfl⟩ := hrel
                    have HL := Lib.hid hL
                    clear hL
                    by_cases hz : F < z
                    · obtain ⟨y2, rfl⟩ : ∃ y2, z = y2 + 1 := ⟨z - 1, by omega⟩
                      have hyl : y2 < bs.length := by rw [← HNL.out]; omega
                      have hcz : wr.cell? ⟨tb, y2, none⟩ = some (.bool (bs.getD y2 false)) := by rw [← bv_get bs y2 hyl]; exact HTK.out.cell y2
                      have HYL := Lib.hid hyl
                      clear hyl
                      by_cases hf : bs.getD y2 false = true
                      · rw [hf] at hcz
                        have HF := Lib.hid hf
                        clear hf
                        go_wp2_with fail
                        go_roundg (gk - 1)
                        case measure => omega
                        case rel => exact ⟨y2, v, by omega, by omega, by omega, by go_num, rfl, Least.miss HF.out HL.out, rfl⟩
                      · have hf' : bs.getD y2 false = false := by simpa using hf
                        rw [hf'] at hcz
                        have HF := Lib.hid hf'
                        clear hf hf'
                        go_wp2_with fail
                        go_roundg (gk - 1)
                        case measure => omega
                        case rel => exact ⟨y2, y2, by omega, by omega, by omega, by go_num, by go_num, Least.hit HYL.out HF.out, rfl⟩
                    · obtain rfl : z = F := by omega
                      rcases HL.out with ⟨rfl, hall⟩ | ⟨K, rfl, hK1, hK2, hK3, hK4⟩
                      · have HA := Lib.hid hall
                        clear hall
                        go_wp2_with (go_at_call 9; refine (take_none z HSP.out (by rw [← HNL.out]; exact hzn) (by rw [← HNL.out]; omega) HA.out).mono ?_; rintro e w' ⟨rfl, rfl⟩)
                        go_meet
                        exact ⟨bs, rfl, HST.out⟩
                      · have HA := Lib.hid hK4
                        have hKn : K < nn := by rw [HNL.out]; exact hK2
                        have HF := Lib.hid hK3
                        have HK2 := Lib.hid hK2
                        clear hK4 hK3 hK2
                        go_wp2_with (go_at_call 9; refine (take_some z K HSP.out hK1 HK2.out (by rw [← HNL.out]; omega) HA.out HF.out (by omega) (by omega)).mono ?_; rintro e w3 ⟨rfl, hs, ho⟩; have HS3 := Lib.hid hs; have HO3 := Lib.hid ho; have hc3 := (HO3.out.blk HTK.out (by simp; omega)).cell K; have hf3 := (HO3.out.blk HTK.out (by simp; omega)).frozen K; rw [bv_get bs K HK2.out] at hc3; clear hs ho)
                        go_meet
                        have hcn := cnt_set_true bs K HK2.out HF.out
                        exact ⟨bs.set K true, by rw [hcn]; rfl, HST.out.set_ HS3.out HO3.out hp hb ht hpt hbt (by rw [hcn]; rfl)⟩
            case rest =>
              obtain ⟨bs', rfl, hst⟩ := hcut
              have HM := Lib.hid (many_any hst.sp)
              have hcn' := cnt_le bs'
              rw [hst.len] at hcn'
              have HF := Lib.hid (free_any hst.sp (by omega) (by rw [hst.len]; omega) (by omega) (by omega) (by rw [hst.len]; omega))
              rw [hst.len] at HF
              have HT := Lib.hid (fun q => taken_any (n := y) (hst.sp.only ((Only.refl wc []).drewN q) (by simp) (by simp)) (by omega))
              rw [hst.len, HBO.out, Bool.false_and] at HT
              have HBW' := Lib.hid hst.bw
              have HST' := Lib.hid hst
              clear hst HST HSP HTK HBW HAC
              go_wp2_with (first
                | (go_at_call 10; refine HM.out.mono ?_; rintro e w' ⟨rfl, rfl⟩)
                | (go_at_call 11; refine HF.out.mono ?_; rintro e w' ⟨rfl, q, rfl⟩)
                | (go_at_call 12; refine (HT.out _).mono ?_; rintro e w' ⟨rfl, rfl⟩))
              go_roundg (gk - 1)
              case measure => omega
              case rel => exact ⟨k + 1, bs', by omega, by go_num, rfl, HST'.out.len, HST'.out.sp.only ((Only.refl wc []).drewN _) (by simp) (by simp), HST'.out.tk, HST'.out.bw.trans (((Only.refl wc []).drewN _).below (B := w.heap.size) HST'.out.bw.size (by simp))⟩
      · by_cases hkN : k < N
        all_goals
          go_wp2
          go_ret
          exact ⟨rfl, HBW.out⟩

end Go.Proofs.Ytngcflhhkkpepaa
