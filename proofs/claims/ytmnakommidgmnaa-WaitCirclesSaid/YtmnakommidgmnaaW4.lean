import Derived.Test.YtmnakommidgmnaaW3
import Derived.Deep.Light
namespace Go.Proofs.Ytmnakommidgmnaa
open Go.RowKit
set_option linter.unusedVariables false

/-- The search, as the code does it. -/
def bfs (ws : Nat → List Int) (dst : Int) : Nat → List Bool → List Int → Bool
  | 0, _, _ => false
  | _ + 1, _, [] => false
  | k + 1, seen, x :: todo =>
    if x = dst then true
    else if seen.getD x.toNat false = true then bfs ws dst k seen todo
    else bfs ws dst k (seen.set x.toNat true) (todo ++ ws x.toNat)
def weight (seen : List Bool) (todo : List Int) : Nat := (seen.count false) * 17 + todo.length
def reachB (ws : Nat → List Int) (s : Nat) (dst : Int) : Bool := bfs ws dst 300 (List.replicate 16 false) (ws s)

def bv (bs : List Bool) : Array Value := (bs.map Value.bool).toArray
theorem bv_get (bs : List Bool) (k : Nat) (h : k < bs.length) : (bv bs)[k]? = some (.bool (bs.getD k false)) := by
  simp [bv, h]
theorem bv_set (bs : List Bool) (k : Nat) (x : Bool) : (bv bs).setIfInBounds k (.bool x) = bv (bs.set k x) := by
  simp [bv, List.map_set]

theorem count_set_true (bs : List Bool) (k : Nat) (h : k < bs.length) (hf : bs.getD k false = false) : (bs.set k true).count false + 1 = bs.count false := by
  have e : bs[k] = false := by simpa [h] using hf
  have hp : 0 < bs.count false := List.count_pos_iff.2 (e ▸ List.getElem_mem h)
  rw [List.count_set h]
  simp [e]
  omega

set_option maxHeartbeats 2000000 in
set_option maxRecDepth 100000 in
theorem reach_R (g s : Nat) (dst : Int) (ws : Nat → List Int) (R : Bool) (w : World) (hg : Gr w g ws) (hs : s < 16) (hR : reachB ws s dst = R) :
    Calls Try.prog 16 #[.pointer (some ⟨g, 0, none⟩), .int .i64 s, .int .i64 dst] w fun e w' => e = .returned (.bool R) ∧ Below w.heap.size w w' := by
  obtain ⟨i0, hi0, hz0, hz1, hz2⟩ := info_parts info3
  have HG := Lib.hid hg
  have HR := Lib.hid hR
  clear hg hR
  go_enter Try.func16, Try.ntmps16
  go_wp2_with (go_at_call 11; refine (for_in g s ws _ hs (HG.out.only ((Below.refl _ _).alloc (Nat.le_refl _) _))).mono ?_; rintro e w1 ⟨v, rfl, hm, hb⟩; have HM := Lib.hid hm; have HB := Lib.hid hb; clear hm hb)
  have hrow := HG.out.len s hs
  have hrng := HG.out.rng s hs
  have hB1 : Below w.heap.size w w1 := ((Below.refl _ w).alloc (Nat.le_refl _) _).trans (HB.out.mono (by simp))
  have hM1 : Mid w1 w.heap.size 3 1 v (ws s).length (iv (ws s)) := HM.out.mono (by simp)
  have hS1 : Blk w1 w.heap.size 26 (bv (List.replicate 16 false)) := (Blk.new w 26 _).below HB.out (by simp)
  have HB1 := Lib.hid hB1
  have HM1 := Lib.hid hM1
  have HS1 := Lib.hid hS1
  have HRNG := Lib.hid hrng
  clear hB1 hM1 hS1 HM HB hrng
  go_loopg [8] 300 (fun q v wr => ∃ (seen : List Bool) (todo : List Int), Mid wr w.heap.size 3 1 v todo.length (iv todo) ∧ seen.length = 16 ∧ Blk wr w.heap.size 26 (bv seen) ∧ weight seen todo < q ∧ q ≤ 300 ∧ bfs ws dst q seen todo = R ∧
    (∀ x ∈ todo, 0 ≤ x ∧ x < 16) ∧ Below w.heap.size w wr)
  case atStart => exact ⟨List.replicate 16 false, ws s, HM1.out, by simp, HS1.out, by simp [weight]; omega, by omega, HR.out, HRNG.out, HB1.out⟩
  case round =>
    clear HM1 HS1 HB1 HRNG
    obtain ⟨seen, todo, hm, hsl, hsb, hwt, hq, hbf, hrg, hbw⟩ := hrel
    have HM := Lib.hid hm
    have HSL := Lib.hid hsl
    have HSB := Lib.hid hsb
    have HBF := Lib.hid hbf
    have HRG := Lib.hid hrg
    have HBW := Lib.hid hbw
    have hsz := hbw.size
    clear hsl hsb hbf hrg hbw HR
    obtain ⟨q, rfl⟩ : ∃ q, gk = q + 1 := ⟨gk - 1, by omega⟩
    rcases todo with _ | ⟨x, todo⟩
    · obtain ⟨A, c, rfl, _, _, _⟩ := hm.form
      have hRF : R = false := HBF.out.symm
      have HRF := Lib.hid hRF
      clear hRF HBF hm
      go_wp2
      go_ret
      exact ⟨by rw [HRF.out]; rfl, HBW.out⟩
    · have hx0 := HRG.out x (by simp)
      have hbf := HBF.out
      rw [bfs] at hbf
      rcases hm.2 with ⟨_, h0⟩ | ⟨gt, off, cap, cur, rfl, hb, hh, hnc, hcm, hcs, ht⟩
      · cases h0
      have hcell : wr.cell? ⟨gt, off, none⟩ = some (.int .i64 x) := by
        obtain ⟨A, c, hv, _, _, hr⟩ := hm.form
        injection hv with hA _ _
        obtain ⟨ad, e, hc⟩ := hr.at_ (k := 0) (u := .int .i64 x) (by simp [iv])
        rw [← hA] at e; injection e with e; subst e
        exact hc
      have HBF2 := Lib.hid hbf
      have hln : todo.length ≤ 300 := by simp [weight] at hwt; omega
      have hcap : cap ≤ 9223372036854775807 := by unfold maxLen at hcm; omega
      have hnc' : todo.length + 1 ≤ cap := by simpa using hnc
      obtain ⟨A1, hA1⟩ : ∃ A1, (if cap = 1 then (some ⟨gt, off, none⟩ : Option Addr) else some ⟨gt, off + 1, none⟩) = A1 := ⟨_, rfl⟩
      have hmt : Mid wr w.heap.size 3 1 (.slice A1 todo.length (cap - 1)) todo.length (iv todo) := by
        have h := hm.drop (k := 1) (by simp)
        rw [← hA1]
        simpa [iv, add_at] using h
      have HMT := Lib.hid hmt
      clear hbf HBF hm hnc hcs ht hcm hmt
      by_cases hxd : x = dst
      · subst hxd
        have hRT : R = true := by have := HBF2.out; simpa using this.symm
        have HRT := Lib.hid hRT
        clear hRT
        go_wp2
        go_ret
        exact ⟨by rw [HRT.out]; rfl, HBW.out⟩
      · have hxd' : (x == dst) = false := by simpa using hxd
        have HXD := Lib.hid hxd
        clear hxd
        obtain ⟨xn, rfl⟩ := Int.eq_ofNat_of_zero_le hx0.1
        have hx16 : xn < 16 := by omega
        have hsn : wr.cell? ⟨w.heap.size, xn, none⟩ = some (.bool (seen.getD xn false)) := by
          rw [HSB.out.cell, bv_get seen xn (by rw [HSL.out]; exact hx16)]
        have hfz : wr.frozen? ⟨w.heap.size, xn, none⟩ = false := HSB.out.frozen _
        by_cases hs1 : seen.getD xn false = true
        · rw [hs1] at hsn
          have HSN := Lib.hid hs1
          clear hs1
          go_wp2_with fail
          go_roundg q
          case measure => omega
          case rel => exact ⟨seen, todo, HMT.out, HSL.out, HSB.out, by simp [weight] at hwt ⊢; omega, by omega, by have := HBF2.out; rw [if_neg (by simpa using HXD.out), Int.toNat_natCast, if_pos HSN.out] at this; exact this, fun y hy => HRG.out y (by simp [hy]), HBW.out⟩
        · have hs1' : seen.getD xn false = false := by simpa using hs1
          rw [hs1'] at hsn
          have HSN := Lib.hid hs1'
          clear hs1 hs1'
          obtain ⟨A2, c2, hc2, hcc2, hcm2, hr2, _⟩ := (HG.out.only HBW.out).row hx16
          have hgb : g < w.heap.size := by obtain ⟨cs, hb', _⟩ := HG.out.rows; exact hb'.lt
          have hcS : (wr.setCell ⟨w.heap.size, xn, none⟩ (.bool true)).cell? ⟨g, xn, none⟩ = some (.slice A2 (ws xn).length c2) := by
            rw [World.cell?_setCell_other]
            · exact hc2
            · intro e; injection e with e _ _; omega
          have hon : Only wr (wr.setCell ⟨w.heap.size, xn, none⟩ (.bool true)) [w.heap.size] := (Only.refl _ _).setCell (by simp) _
          have hMS : Mid (wr.setCell ⟨w.heap.size, xn, none⟩ (.bool true)) w.heap.size 3 1 (.slice A1 todo.length (cap - 1)) todo.length (iv todo) :=
            HMT.out.only hon (fun g' hg' hin => HMT.out.ne_blk HSB.out (by decide) (by simp at hin; rw [← hin]; exact hg'))
          have hRS : Row (wr.setCell ⟨w.heap.size, xn, none⟩ (.bool true)) A2 (iv (ws xn)) := by
            obtain ⟨A', c', hc', _, _, hr', hm'⟩ := HG.out.row hx16
            have e : A2 = A' := by
              have := (HBW.out.cell (p := ⟨g, xn, none⟩) hgb).trans hc'
              rw [hc2] at this
              injection this with this; injection this
            subst e
            exact hr'.below (HBW.out.setCell (by simp) _) (fun ad e hn => by obtain ⟨ad', e', hlt⟩ := hr'.lt hn; rw [e] at e'; injection e' with e'; subst e'; exact hlt)
          have hSB2 : Blk (wr.setCell ⟨w.heap.size, xn, none⟩ (.bool true)) w.heap.size 26 (bv (seen.set xn true)) := by
            have h := HSB.out.set_ xn (.bool true)
            rwa [bv_set] at h
          have hBWS : Below w.heap.size w (wr.setCell ⟨w.heap.size, xn, none⟩ (.bool true)) := HBW.out.setCell (by simp) _
          have HMS := Lib.hid hMS
          have HRS := Lib.hid hRS
          have HSB2 := Lib.hid hSB2
          have HBWS := Lib.hid hBWS
          have hl2 := HG.out.len xn hx16
          clear hr2 hcm2 hMS hRS hSB2 hBWS hon
          go_wp2_with (at_builtin; refine wpList_append_mid _ rfl (.tmp 30) (.tmp 36) 29 rfl w.heap.size 3 i0 (.int .i64 0) 1 8 Try.underlying29 hi0 hz0 hz1 hz2 rfl (by decide) _ _ _ rfl HMS.out A2 _ c2 (iv (ws xn)) rfl (by simp [iv]) HRS.out (iv_one _) (by simp only [maxLen]; omega) (by omega) (by simpa using hsz) ?_; intro v3 w3 hm3 hg3 ho3; have HM3 := Lib.hid hm3; have HG3 := Lib.hid hg3; clear hm3 hg3 ho3)
          go_roundg q
          case measure => omega
          case rel =>
            refine ⟨seen.set xn true, todo ++ ws xn, by simpa [iv] using HM3.out, by simpa using HSL.out, HSB2.out.grown HG3.out (fun e => HMS.out.ne_blk HSB2.out (by decide) e.symm), ?_, by omega, ?_, ?_, ?_⟩
            · have hc := count_set_true seen xn (by rw [HSL.out]; exact hx16) HSN.out
              simp [weight] at hwt ⊢
              omega
            · have := HBF2.out
              rw [if_neg (by simpa using HXD.out), Int.toNat_natCast, if_neg (by rw [HSN.out]; simp)] at this
              exact this
            · intro y hy
              rcases List.mem_append.1 hy with h | h
              · exact HRG.out y (by simp [h])
              · exact HG.out.rng xn hx16 y h
            · exact HBWS.out.grown HG3.out (by simpa using hsz) (fun j hj => (HMS.out.block j hj).1)

theorem reach_any (g s : Nat) (dst : Int) (ws : Nat → List Int) (w : World) (hg : Gr w g ws) (hs : s < 16) :
    Calls Try.prog 16 #[.pointer (some ⟨g, 0, none⟩), .int .i64 s, .int .i64 dst] w fun e w' => e = .returned (.bool (reachB ws s dst)) ∧ Below w.heap.size w w' :=
  reach_R g s dst ws _ w hg hs rfl

end Go.Proofs.Ytmnakommidgmnaa
