import Derived.Test.YtahhbgfibelfaaaDoorL7
import Derived.ScopeJumps
import Derived.WalkMore
import Derived.OwnWalk
import Derived.BigRegion
import Derived.Lib.LaidU8
namespace Go.Proofs.YtahhbgfibelfaaaDoor
open Go.RowKit Go.Lib
set_option linter.unusedVariables false



abbrev bv (l : List UInt8) : List Value := l.map fun c => Value.int .u8 (c.toNat : Int)
theorem info5 : (Tryd.prog.info? 5).map (fun i => (i.zero, i.size, i.bytes)) = some (some (.int .u8 0), 1, 1) := by kernel_rfl
theorem row_one (w : World) (u : Value) (t : TypeId) : Row (w.alloc (.cells #[u] t)) (some ⟨w.heap.size, 0, none⟩) [u] := fun _ => ⟨_, rfl, fun j v hj => by
  rcases j with _ | j
  · simp at hj
    subst hj
    rw [add_at, (Blk.new w t #[u]).cell]
    rfl
  · simp at hj⟩
theorem conv_mid {w : World} {B : Nat} {v : Value} {acc : List UInt8} (h : Mid w B 5 1 v acc.length (bv acc)) : (convert 95 9 v).run Tryd.prog w = .ok (.string ⟨acc.toArray⟩) w := by
  rcases h.2 with ⟨rfl, h0⟩ | ⟨g, off, cap, cur, rfl, hb, hh, hnc, hcm, hcs, ht⟩
  · obtain rfl : acc = [] := List.eq_nil_of_length_eq_zero h0
    exact run_convert_bytes_nil w 95 5 Tryd.underlying95 Tryd.underlying5 0 0 9 Tryd.underlying9
  · exact run_convert_bytes_back (P := Tryd.prog) w 95 9 5 ⟨g, off, none⟩ cap acc Tryd.underlying95 Tryd.underlying5 Tryd.underlying9 (fun j hj => by
      rw [add_at, hh.cell, ← Array.getElem?_toList]
      have e : (bv acc)[j]? = some (.int .u8 ((acc[j]).toNat : Int)) := by simp [bv, hj]
      rw [← ht, List.getElem?_take] at e
      rw [if_pos (by omega), List.getElem?_drop] at e
      exact e)
def intOf : Value → Int | .int _ q => q | _ => 0
def mkF (s : ByteArray) (f : Nat → Value) (v : Value) (i : Nat) : Act := { tmps := (.string s :: f 1 :: f 2 :: f 3 :: f 4 :: v :: .int .i64 (i : Int) :: f 7 :: f 8 :: f 9 :: f 10 :: f 11 :: f 12 :: f 13 :: f 14 :: f 15 :: f 16 :: f 17 :: f 18 :: f 19 :: f 20 :: f 21 :: f 22 :: f 23 :: f 24 :: f 25 :: f 26 :: f 27 :: f 28 :: f 29 :: f 30 :: f 31 :: f 32 :: f 33 :: f 34 :: f 35 :: f 36 :: f 37 :: f 38 :: f 39 :: f 40 :: f 41 :: f 42 :: f 43 :: f 44 :: f 45 :: f 46 :: f 47 :: f 48 :: f 49 :: f 50 :: f 51 :: f 52 :: f 53 :: f 54 :: f 55 :: f 56 :: f 57 :: f 58 :: f 59 :: f 60 :: f 61 :: f 62 :: f 63 :: f 64 :: f 65 :: f 66 :: f 67 :: f 68 :: f 69 :: []).toArray, defers := [] }
def fOf (a : Act) (n : Nat) : Value := a.tmps.toList.getD n undef
def tlxRet : Option (List UInt8 × Nat) → Ending
  | some (t, m) => .returned (.tuple #[.string ⟨t.toArray⟩, .int .i64 m, .bool true])
  | none => .returned (.tuple #[.string ⟨#[]⟩, .int .i64 0, .bool false])

theorem wp_scope_once {P : Program} {a : Act} {w : World} {Q : Exit → Act → World → Prop} {c rest : Code} (l : Nat) (J : Act → World → Prop) (μ : Act → World → Nat) (hf : findLabel c l = some (Code.skip.seq rest))
    (pass : ∀ a w, J a w → rest.wp P (Exit.jump l (fun a' w' => J a' w' ∧ μ a' w' < μ a w) Q) a w)
    (first : (∀ a w, J a w → rest.wp P (Exit.jump l J Q) a w) → c.wp P (Exit.jump l J Q) a w) : (Code.scope c).wp P Q a w :=
  wp_scope_jumps l J μ hf (first fun a w h => Code.wp_mono (fun e a w he => by
    cases e <;> first | exact he | exact ⟨he.1, he.2.1⟩) (pass a w h)) fun a w h => wp_seq (wp_skip (pass a w h))

set_option maxHeartbeats 4000000 in
set_option maxRecDepth 10000 in
theorem text_lex (s : ByteArray) (h1 : 1 ≤ s.size) (hs : s.size ≤ 1000000) (w : World) :
    Calls Tryd.prog 32 #[.string s] w fun e w' => e = tlxRet (txt (rem s 1) [] 1) ∧ Below w.heap.size w w' := by
  obtain ⟨i5, hi5, hy0, hy1, hy2⟩ := info_parts info5
  generalize hk : txt (rem s 1) [] 1 = R at *
  have HK := Lib.hid hk
  clear hk
  go_enter Tryd.func32, Tryd.ntmps32
  go_wp2_with fail
  refine wp_scope_once 0 (fun a' w' => ∃ (v : Value) (i : Nat) (acc : List UInt8), a' = mkF s (fOf a') v i ∧ 1 ≤ i ∧ i ≤ s.size ∧ acc.length ≤ i ∧ Mid w' w.heap.size 5 1 v acc.length (bv acc) ∧ txt (rem s i) acc i = R ∧ Below w.heap.size w w') (fun a' _ => s.size + 1 - (intOf (a'.tmps.getD 6 undef)).toNat) rfl ?pass ?first
  case first =>
    intro hp
    go_wp2_with fail
    go_step3
    rename_i hK
    exact hK _ _ (hp _ _ ⟨.slice none 0 0, 1, [], by kernel_rfl, by omega, by omega, by simp, Mid.nil _ _ _ _, HK.out, Below.refl _ _⟩)
  case pass =>
    intro a wr hJ
    obtain ⟨v, i, acc, ha, hi1, hi2, hal, hm, hrun, hbw⟩ := hJ
    generalize fOf a = f at ha
    subst ha
    unfold mkF
    have HM := Lib.hid hm
    have HBW := Lib.hid hbw
    have hsz := hbw.size
    have CV := Lib.hid (conv_mid hm)
    clear hm hbw
    by_cases hlt : i < s.size
    · rw [rem_cons hlt] at hrun
      generalize hc : s[i] = c at *
      by_cases h34 : c.toNat = 34
      · rw [txt_34 h34] at hrun
        have HN := Lib.hid hrun.symm
        have hcv := CV.out
        clear hrun
        go_wp2_with fail
        simp only [Exit.jump]
        go_ret3
        exact ⟨by rw [HN.out]; rfl, HBW.out⟩
      · by_cases h32 : c.toNat < 32
        · rw [txt_32 h34 h32] at hrun
          have HN := Lib.hid hrun.symm
          clear hrun
          go_wp2_with fail
          simp only [Exit.jump]
          go_ret3
          exact ⟨by rw [HN.out]; rfl, HBW.out⟩
        · by_cases h92 : c.toNat = 92
          · obtain ⟨m, hm⟩ : ∃ m, m = i + 1 := ⟨_, rfl⟩
            have hmi : (i : Int) + 1 = (m : Int) := by omega
            have HMI : Hid (m = i + 1) := hm
            rw [← hm] at hrun
            clear hm
            by_cases hlt2 : m < s.size
            · rw [rem_cons hlt2] at hrun
              generalize hd : s[m] = d at *
              have hx2 : d.toNat < 256 := d.toNat_lt
              by_cases hq : d.toNat = 34 ∨ d.toNat = 92
              · rw [txt_92 h92 hq] at hrun
                obtain ⟨p, hp⟩ : ∃ p, p = i + 2 := ⟨_, rfl⟩
                have hpi : (i : Int) + 2 = (p : Int) := by omega
                have HPI : Hid (p = i + 2) := hp
                have HN := Lib.hid (show txt (rem s p) (acc ++ [d]) p = R by rw [hp]; have := HMI.out; rw [show i + 2 = m + 1 by omega]; rw [show m + 1 = i + 2 by omega] at *; exact hrun)
                clear hrun hp CV
                rcases hq with hq | hq
                · have hd' : d = 34 := by apply UInt8.toNat_inj.1; simpa using hq
                  subst hd'
                  clear hq hx2
                  go_wp2_with (at_builtin; refine wpList_append_mid _ rfl (.tmp 58) (.tmp 63) 95 rfl w.heap.size 5 i5 _ 1 1 Tryd.underlying95 hi5 hy0 hy1 hy2 rfl (by decide) _ _ _ rfl (HM.out.alloc _) (some ⟨wr.heap.size, 0, none⟩) 1 1 (bv [34]) rfl rfl (row_one _ _ _) (by simp [Value.oneCell']) (by simp only [maxLen]; omega) (by omega) (by simp; omega) ?_; intro v1 w1 hm1 hg1 ho1; have HM1 := Lib.hid hm1; have HG1 := Lib.hid hg1; clear hm1 hg1 ho1)
                  go_step3
                  refine ⟨rfl, ⟨v1, p, acc ++ [34], by kernel_rfl, by have := HPI.out; omega, by have := HPI.out; have := HMI.out; omega, by have := HPI.out; simp; omega, by simpa [bv] using HM1.out, HN.out, (HBW.out.alloc hsz _).grown HG1.out (by simp; omega) (fun j hj => (HM.out.block j hj).1)⟩, ?_⟩
                  simp [mkF, intOf]
                  have := HPI.out; omega
                · have hd' : d = 92 := by apply UInt8.toNat_inj.1; simpa using hq
                  subst hd'
                  clear hq hx2
                  go_wp2_with (at_builtin; refine wpList_append_mid _ rfl (.tmp 58) (.tmp 63) 95 rfl w.heap.size 5 i5 _ 1 1 Tryd.underlying95 hi5 hy0 hy1 hy2 rfl (by decide) _ _ _ rfl (HM.out.alloc _) (some ⟨wr.heap.size, 0, none⟩) 1 1 (bv [92]) rfl rfl (row_one _ _ _) (by simp [Value.oneCell']) (by simp only [maxLen]; omega) (by omega) (by simp; omega) ?_; intro v1 w1 hm1 hg1 ho1; have HM1 := Lib.hid hm1; have HG1 := Lib.hid hg1; clear hm1 hg1 ho1)
                  go_step3
                  refine ⟨rfl, ⟨v1, p, acc ++ [92], by kernel_rfl, by have := HPI.out; omega, by have := HPI.out; have := HMI.out; omega, by have := HPI.out; simp; omega, by simpa [bv] using HM1.out, HN.out, (HBW.out.alloc hsz _).grown HG1.out (by simp; omega) (fun j hj => (HM.out.block j hj).1)⟩, ?_⟩
                  simp [mkF, intOf]
                  have := HPI.out; omega
              · rw [txt_92n h92 hq] at hrun
                have HN := Lib.hid hrun.symm
                have hq1 : ¬ d.toNat = 34 := fun h => hq (.inl h)
                have hq2 : ¬ d.toNat = 92 := fun h => hq (.inr h)
                have hb1 : ((d.toNat : Int) == 34) = false := by simp; omega
                have hb2 : ((d.toNat : Int) == 92) = false := by simp; omega
                clear hrun hq CV
                go_wp2_with fail
                simp only [Exit.jump]
                go_ret3
                exact ⟨by rw [HN.out]; rfl, HBW.out⟩
            · rw [rem_nil (by omega), txt_92e h92] at hrun
              have HN := Lib.hid hrun.symm
              clear hrun CV
              go_wp2_with fail
              simp only [Exit.jump]
              go_ret3
              exact ⟨by rw [HN.out]; rfl, HBW.out⟩
          · rw [txt_go h34 h32 h92] at hrun
            obtain ⟨p, hp⟩ : ∃ p, p = i + 1 := ⟨_, rfl⟩
            have hpi : (i : Int) + 1 = (p : Int) := by omega
            have HPI : Hid (p = i + 1) := hp
            have hb1 : ((c.toNat : Int) == 34) = false := by simp; omega
            have hb2 : ((c.toNat : Int) == 92) = false := by simp; omega
            rw [← hp] at hrun
            have HN := Lib.hid hrun
            clear hrun hp CV
            go_wp2_with (at_builtin; refine wpList_append_mid _ rfl (.tmp 21) (.tmp 23) 95 rfl w.heap.size 5 i5 _ 1 1 Tryd.underlying95 hi5 hy0 hy1 hy2 rfl (by decide) _ _ _ rfl (HM.out.alloc _) (some ⟨wr.heap.size, 0, none⟩) 1 1 (bv [c]) rfl rfl (row_one _ _ _) (by simp [Value.oneCell']) (by simp only [maxLen]; omega) (by omega) (by simp; omega) ?_; intro v1 w1 hm1 hg1 ho1; have HM1 := Lib.hid hm1; have HG1 := Lib.hid hg1; clear hm1 hg1 ho1)
            go_step3
            refine ⟨rfl, ⟨v1, p, acc ++ [c], by kernel_rfl, by have := HPI.out; omega, by have := HPI.out; omega, by have := HPI.out; simp; omega, by simpa [bv] using HM1.out, HN.out, (HBW.out.alloc hsz _).grown HG1.out (by simp; omega) (fun j hj => (HM.out.block j hj).1)⟩, ?_⟩
            simp [mkF, intOf]
            have := HPI.out; omega
    · rw [rem_nil (by omega), txt] at hrun
      have HN := Lib.hid hrun.symm
      clear hrun
      go_wp2_with fail
      simp only [Exit.jump]
      go_ret3
      exact ⟨by rw [HN.out]; rfl, HBW.out⟩

end Go.Proofs.YtahhbgfibelfaaaDoor
