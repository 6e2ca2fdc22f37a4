import Derived.Test.YtmnakommidgmnaaW10z
namespace Go.Proofs.Ytmnakommidgmnaa
open Go.RowKit
set_option linter.unusedVariables false

set_option maxHeartbeats 4000000 in
set_option maxRecDepth 100000 in
theorem who_loop (K : Act → World → Prop) (R : Ending → World → Prop) (g mb fb : Nat) (A2 : Option Addr) (n2 c2 : Nat) (us : List Int) (av : Bool) (ws : Nat → List Int) (L F : List Bool) (w wr : World)
    (hN2 : n2 ≤ 9223372036854775807) (HA2 : Hid (Row w A2 (uv us))) (HN2 : Hid (us.length = n2)) (HG : Hid (Gr wr g ws)) (HBM : Hid (Blk wr mb 27 (bv L))) (HBF : Hid (Blk wr fb 27 (bv F))) (HBW : Hid (Below w.heap.size w wr))
    (HLL : Hid (L.length = 256)) (HFL : Hid (F.length = 256)) (HASC : Hid (∀ a : Nat, (ws a).Pairwise (· < ·))) (HAT : Hid (∀ a b : Nat, a < 16 → b < 16 → at2 L a b = decide ((b : Int) ∈ ws a)))
    (HRNG : Hid (∀ i, i < 16 → ∀ x ∈ ws i, 0 ≤ x ∧ x < 16)) (HCE : Hid (∀ who, who < 16 → circ ws who = pf (incF F who) 16))
    (HEXIT : Hid (∀ (x0 x1 x2 x3 x4 x6 x7 x8 x9 x10 x11 x13 x14 x15 x16 x17 x18 x19 x20 x21 x22 x23 x24 x25 x26 x27 x28 x29 x30 x31 x32 x33 x34 x35 x36 x37 x38 x39 x40 x41 x42 x43 x44 x45 x46 x47 x48 x49 x50 x51 x52 x53 x54 x55 x56 x57 x58 x59 x60 x61 x62 x63 x64 x65 x66 x67 x68 x69 x70 x71 x72 x73 x74 x75 x76 x77 x78 x79 x80 x81 x82 x83 x84 x85 x86 x87 x88 x89 x90 x91 x92 x93 x94 x95 x96 x97 x98 x99 x100 x101 x102 x103 x104 x105 x106 x107 x108 x109 x110 x111 x112 x113 x114 x115 x116 x117 x118 x119 x120 x121 x122 x123 x124 x125 x126 x127 x128 x129 x130 x131 x132 x133 x134 x135 x136 x137 x138 x139 x140 x141 x142 x143 x144 x145 x146 x147 x148 x149 x150 x151 x152 x153 x154 x155 x156 x157 x158 x159 x160 x161 x162 x163 x164 x165 x166 x167 x168 x169 x170 x171 x172 x173 x174 x175 x176 x177 x178 x179 x180 x181 x182 x183 x184 x185 x186 x187 x188 x189 x190 x191 x192 x193 x194 x195 x196 x197 x198 x199 x200 x201 x202 x203 x204 x205 x206 x207 x208 x209 x210 x211 x212 x213 x214 x215 x216 x217 x218 x219 x220 x221 x222 x223 x224 x225 x226 x227 x228 x229 x230 x231 x232 x233 x234 x235 x236 x237 x238 x239 x240 x241 x242 x243 x244 x245 x246 x247 x248 x249 : Value) (w' : World), Gr w' g ws → Below w.heap.size w w' → K ⟨(x0 :: x1 :: x2 :: x3 :: x4 :: .pointer (some ⟨g, 0, none⟩) :: x6 :: x7 :: x8 :: x9 :: x10 :: x11 :: .bool av :: x13 :: x14 :: x15 :: x16 :: x17 :: x18 :: x19 :: x20 :: x21 :: x22 :: x23 :: x24 :: x25 :: x26 :: x27 :: x28 :: x29 :: x30 :: x31 :: x32 :: x33 :: x34 :: x35 :: x36 :: x37 :: x38 :: x39 :: x40 :: x41 :: x42 :: x43 :: x44 :: x45 :: x46 :: x47 :: x48 :: x49 :: x50 :: x51 :: x52 :: x53 :: x54 :: x55 :: x56 :: x57 :: x58 :: x59 :: x60 :: x61 :: x62 :: x63 :: x64 :: x65 :: x66 :: x67 :: x68 :: x69 :: x70 :: x71 :: x72 :: x73 :: x74 :: x75 :: x76 :: x77 :: x78 :: x79 :: x80 :: x81 :: x82 :: x83 :: x84 :: x85 :: x86 :: x87 :: x88 :: x89 :: x90 :: x91 :: x92 :: x93 :: x94 :: x95 :: x96 :: x97 :: x98 :: x99 :: x100 :: x101 :: x102 :: x103 :: x104 :: x105 :: x106 :: x107 :: x108 :: x109 :: x110 :: x111 :: x112 :: x113 :: x114 :: x115 :: x116 :: x117 :: x118 :: x119 :: x120 :: x121 :: x122 :: x123 :: x124 :: x125 :: x126 :: x127 :: x128 :: x129 :: x130 :: x131 :: x132 :: x133 :: x134 :: x135 :: x136 :: x137 :: x138 :: x139 :: x140 :: x141 :: x142 :: x143 :: x144 :: x145 :: x146 :: x147 :: x148 :: x149 :: x150 :: x151 :: x152 :: x153 :: x154 :: x155 :: x156 :: x157 :: x158 :: x159 :: x160 :: x161 :: x162 :: x163 :: x164 :: x165 :: x166 :: x167 :: x168 :: x169 :: x170 :: x171 :: x172 :: x173 :: x174 :: x175 :: x176 :: x177 :: x178 :: x179 :: x180 :: x181 :: x182 :: x183 :: x184 :: x185 :: x186 :: x187 :: x188 :: x189 :: x190 :: x191 :: x192 :: x193 :: x194 :: x195 :: x196 :: x197 :: x198 :: x199 :: x200 :: x201 :: x202 :: x203 :: x204 :: x205 :: x206 :: x207 :: x208 :: x209 :: x210 :: x211 :: x212 :: x213 :: x214 :: x215 :: x216 :: x217 :: x218 :: x219 :: x220 :: x221 :: x222 :: x223 :: x224 :: x225 :: x226 :: x227 :: x228 :: x229 :: x230 :: x231 :: x232 :: x233 :: x234 :: x235 :: x236 :: x237 :: x238 :: x239 :: x240 :: x241 :: x242 :: x243 :: x244 :: x245 :: x246 :: x247 :: x248 :: x249 :: []).toArray, []⟩ w'))
    (x0 x2 x3 x7 x8 x9 x10 x13 x14 x15 x17 x18 x19 x20 x21 x22 x23 x24 x25 x26 x27 x28 x29 x30 x31 x32 x33 x34 x35 x36 x37 x38 x39 x40 x41 x42 x43 x44 x45 x46 x47 x48 x49 x50 x51 x52 x53 x54 x55 x56 x57 x58 x59 x60 x61 x62 x63 x64 x65 x66 x67 x68 x69 x70 x71 x72 x73 x74 x75 x76 x77 x78 x79 x80 x81 x82 x83 x84 x85 x86 x87 x88 x89 x90 x91 x92 x93 x94 x95 x96 x97 x98 x99 x100 x101 x102 x103 x104 x105 x106 x107 x108 x109 x110 x111 x112 x113 x114 x115 x116 x117 x118 x119 x120 x121 x122 x123 x124 x125 x126 x127 x128 x129 x130 x131 x132 x133 x134 x135 x136 x137 x138 x139 x140 x141 x142 x143 x144 x145 x146 x147 x148 x149 x150 x151 x152 x153 x154 x155 x156 x157 x158 x159 x160 x161 x162 x163 x164 x165 x166 x167 x168 x169 x170 x171 x172 x173 x174 x175 x176 x177 x178 x179 x180 x181 x182 x183 x184 x185 x186 x187 x188 x189 x190 x191 x192 x193 x194 x195 x196 x197 x198 x199 x200 x201 x202 x203 x204 x205 x206 x207 x208 x209 x210 x211 x212 x213 x214 x215 x216 x217 x218 x219 x220 x221 x222 x223 x224 x225 x226 x227 x228 x229 x230 x231 x232 x233 x234 x235 x236 x237 x238 x239 x240 x241 x242 x243 x244 x245 x246 x247 x248 x249 : Value) :
    Code.wp Try.prog (Code.loop body3) (Exit.inBlock 10 (Exit.then K (bodyPost Try.prog Try.f3 R))) ⟨(x0 :: .slice A2 n2 c2 :: x2 :: x3 :: .bool false :: .pointer (some ⟨g, 0, none⟩) :: .pointer (some ⟨mb, 0, none⟩) :: x7 :: x8 :: x9 :: x10 :: .pointer (some ⟨fb, 0, none⟩) :: .bool av :: x13 :: x14 :: x15 :: .int .i64 0 :: x17 :: x18 :: x19 :: x20 :: x21 :: x22 :: x23 :: x24 :: x25 :: x26 :: x27 :: x28 :: x29 :: x30 :: x31 :: x32 :: x33 :: x34 :: x35 :: x36 :: x37 :: x38 :: x39 :: x40 :: x41 :: x42 :: x43 :: x44 :: x45 :: x46 :: x47 :: x48 :: x49 :: x50 :: x51 :: x52 :: x53 :: x54 :: x55 :: x56 :: x57 :: x58 :: x59 :: x60 :: x61 :: x62 :: x63 :: x64 :: x65 :: x66 :: x67 :: x68 :: x69 :: x70 :: x71 :: x72 :: x73 :: x74 :: x75 :: x76 :: x77 :: x78 :: x79 :: x80 :: x81 :: x82 :: x83 :: x84 :: x85 :: x86 :: x87 :: x88 :: x89 :: x90 :: x91 :: x92 :: x93 :: x94 :: x95 :: x96 :: x97 :: x98 :: x99 :: x100 :: x101 :: x102 :: x103 :: x104 :: x105 :: x106 :: x107 :: x108 :: x109 :: x110 :: x111 :: x112 :: x113 :: x114 :: x115 :: x116 :: x117 :: x118 :: x119 :: x120 :: x121 :: x122 :: x123 :: x124 :: x125 :: x126 :: x127 :: x128 :: x129 :: x130 :: x131 :: x132 :: x133 :: x134 :: x135 :: x136 :: x137 :: x138 :: x139 :: x140 :: x141 :: x142 :: x143 :: x144 :: x145 :: x146 :: x147 :: x148 :: x149 :: x150 :: x151 :: x152 :: x153 :: x154 :: x155 :: x156 :: x157 :: x158 :: x159 :: x160 :: x161 :: x162 :: x163 :: x164 :: x165 :: x166 :: x167 :: x168 :: x169 :: x170 :: x171 :: x172 :: x173 :: x174 :: x175 :: x176 :: x177 :: x178 :: x179 :: x180 :: x181 :: x182 :: x183 :: x184 :: x185 :: x186 :: x187 :: x188 :: x189 :: x190 :: x191 :: x192 :: x193 :: x194 :: x195 :: x196 :: x197 :: x198 :: x199 :: x200 :: x201 :: x202 :: x203 :: x204 :: x205 :: x206 :: x207 :: x208 :: x209 :: x210 :: x211 :: x212 :: x213 :: x214 :: x215 :: x216 :: x217 :: x218 :: x219 :: x220 :: x221 :: x222 :: x223 :: x224 :: x225 :: x226 :: x227 :: x228 :: x229 :: x230 :: x231 :: x232 :: x233 :: x234 :: x235 :: x236 :: x237 :: x238 :: x239 :: x240 :: x241 :: x242 :: x243 :: x244 :: x245 :: x246 :: x247 :: x248 :: x249 :: []).toArray, []⟩ wr := by
  conv => arg 2; arg 1; whnf
  go_loopg [16] 16 (fun q i wx => ∃ (ww : Nat), q + ww = 16 ∧ i = .int .i64 ww ∧ Gr wx g ws ∧ Blk wx mb 27 (bv L) ∧ Blk wx fb 27 (bv F) ∧ Below w.heap.size w wx)
  case atStart => exact ⟨0, rfl, rfl, HG.out, HBM.out, HBF.out, HBW.out⟩
  case round =>
    clear HG HBM HBF HBW
    obtain ⟨ww, hww, rfl, hg, hbm, hbf, hbw⟩ := hrel
    have HWW := Lib.hid hww
    by_cases hw16 : ww < 16
    · have hw16d : decide ((ww : Int) < 16) = true := by simp; omega
      have hci := circle_in g ww ws wr hg hw16
      rw [HCE.out ww hw16] at hci
      have HCI := Lib.hid hci
      have HG := Lib.hid hg
      have HBM := Lib.hid hbm
      have HBF := Lib.hid hbf
      have HBW := Lib.hid hbw
      have hszr := hbw.size
      clear hg hbm hbf hbw hci
      go_wp2_with (go_at_call 9; refine HCI.out.mono ?_; rintro e w6 ⟨v6, rfl, hm6, hb6⟩; obtain ⟨A6, c6, rfl, hlc6, hcm6, hrow6⟩ := hm6.form; have HROW6 := Lib.hid hrow6; have HG6 := Lib.hid (HG.out.only hb6); have HBM6 := Lib.hid (HBM.out.below hb6 HBM.out.lt); have HBF6 := Lib.hid (HBF.out.below hb6 HBF.out.lt); have HBW6 := Lib.hid (HBW.out.trans (hb6.mono hszr)); clear hm6 hb6 hrow6)
      clear HG HBM HBF HBW HCI
      go_loopg [18, 19, 20, 21] 16 (fun q v18 v19 v20 i wx => ∃ (x : Nat), q + x = 16 ∧ i = .int .i64 x ∧ v20 = .int .i64 (pf (incF F ww) x).length ∧ v18 = .int .i64 (vict us (pf (incF F ww) x)) ∧ v19 = .int .u64 (ageB us (vict us (pf (incF F ww) x))) ∧ w6 = wx)
      case atStart => exact ⟨0, rfl, rfl, rfl, rfl, rfl, rfl⟩
      case round =>
        obtain ⟨x, hxx, rfl, rfl, rfl, rfl, rfl⟩ := hrel
        have HXX := Lib.hid hxx
        clear hxx
        by_cases hx16 : x < 16
        · have hx16d : decide ((x : Int) < 16) = true := by simp; omega
          have q0 : w6.cell? ⟨fb, ww * 16 + ww, none⟩ = some (.bool (at2 F ww ww)) := by rw [HBF6.out.cell, bv_get F _ (by rw [HFL.out]; omega)]; rfl
          have q1 : w6.cell? ⟨fb, ww * 16 + x, none⟩ = some (.bool (at2 F ww x)) := by rw [HBF6.out.cell, bv_get F _ (by rw [HFL.out]; omega)]; rfl
          have q2 : w6.cell? ⟨fb, x * 16 + ww, none⟩ = some (.bool (at2 F x ww)) := by rw [HBF6.out.cell, bv_get F _ (by rw [HFL.out]; omega)]; rfl
          have hfl := pf_le (incF F ww) x
          have hvg := vict_ge us (pf (incF F ww) x)
          have HPS := Lib.hid (pf_succ (incF F ww) x)
          by_cases hin : incF F ww x = true
          · have hps : pf (incF F ww) (x + 1) = pf (incF F ww) x ++ [x] := by rw [HPS.out, if_pos hin]
            have hvs : vict us (pf (incF F ww) (x + 1)) = pick1 us (vict us (pf (incF F ww) x)) x := by rw [hps]; exact foldl_snoc us _ x
            obtain ⟨hpl, hpx⟩ := pf_at (incF F ww) x hx16 hin
            have hlen1 : Hid ((pf (incF F ww) (x + 1)).length = (pf (incF F ww) x).length + 1) := by show _ = _; rw [hps]; simp
            have HVS := Lib.hid hvs
            obtain ⟨ad6, rfl, hc6⟩ := HROW6.out.at_ (k := (pf (incF F ww) x).length) (u := .int .i64 x) (by
              have e : (ii (pf (incF F ww) 16))[(pf (incF F ww) x).length]? = some (x : Int) := by
                rw [List.getElem?_map, List.getElem?_eq_getElem hpl]
                have : (pf (incF F ww) 16)[(pf (incF F ww) x).length] = x := by simpa [hpl] using hpx
                simp [this]
              rw [List.getElem?_map, e]
              rfl)
            have hcase : at2 F ww ww = true ∧ (x = ww ∨ (at2 F ww x = true ∧ at2 F x ww = true)) := by simpa [incF] using hin
            obtain ⟨b0, hcase⟩ := hcase
            rw [b0] at q0
            have HB0 := Lib.hid b0
            clear hps hvs hpx hin b0 HPS
            generalize hlp : (pf (incF F ww) x).length = np at *
            generalize hvp : vict us (pf (incF F ww) x) = vb at *
            have HLP := Lib.hid hlp
            have HVP := Lib.hid hvp
            clear hlp hvp
            have HAX : Hid ((∃ ad, A2 = some ad ∧ x < n2 ∧ w6.cell? (ad.add x) = some (.int .u64 (us.getD x 0))) ∨ (n2 ≤ x ∧ us.getD x 0 = 0)) := by
              by_cases hx2 : x < n2
              · have hx3 : x < us.length := by rw [HN2.out]; exact hx2
                obtain ⟨ad, e, hx⟩ := (HA2.out.belowAll HBW6.out).at_ (k := x) (u := .int .u64 (us.getD x 0)) (by simp [uv, List.getElem?_eq_getElem hx3])
                exact .inl ⟨ad, e, hx2, hx⟩
              · have hx3 : us.length ≤ x := by rw [HN2.out]; omega
                exact .inr ⟨by omega, by simp [List.getElem?_eq_none hx3]⟩
            have hpick := pick_cases us vb x hvg
            have HAGX := Lib.hid (age_pos us x)
            generalize hag : ageB us vb = ag at *
            have HAGV := Lib.hid hag
            clear hag
            generalize us.getD x 0 = ax at *
            generalize pick1 us vb x = pv at *
            have hfar : ((x : Int) != (ww : Int)) = false ∨ (((x : Int) != (ww : Int)) = true ∧ at2 F ww x = true ∧ at2 F x ww = true) := by
              by_cases hxw : x = ww
              · exact .inl (by simp [hxw])
              · exact .inr ⟨by simp; omega, (hcase.resolve_left hxw).1, (hcase.resolve_left hxw).2⟩
            clear hcase
            have hp1 : np < 16 := by have := pf_le (incF F ww) 16; omega
            have fin : ∀ (b a : Int), pv = b → ageB us b = a → (∃ x_1, 16 - (x + 1) + x_1 = 16 ∧ Value.int .i64 ((x : Int) + 1) = .int .i64 x_1 ∧ Value.int .i64 ((np : Int) + 1) = .int .i64 (pf (incF F ww) x_1).length ∧ Value.int .i64 b = .int .i64 (vict us (pf (incF F ww) x_1)) ∧ Value.int .u64 a = .int .u64 (ageB us (vict us (pf (incF F ww) x_1)))) := fun b a e1 e2 => ⟨x + 1, by omega, by simp, by rw [hlen1.out]; simp, by rw [HVS.out, e1], by rw [HVS.out, e1, e2]⟩
            have FIN := Lib.hid fin
            clear fin HVS hlen1 HVP HLP
            go_upto_region 37 with fail
            go_cut [171] (fun v wx => v = .bool false ∧ w6 = wx)
            case first =>
              rcases hfar with hne | ⟨hne, c1, c2⟩
              · go_wp2_with fail
                go_meet
                first | exact ⟨by simp, rfl⟩ | exact ⟨rfl, rfl⟩
              · rw [c1] at q1
                rw [c2] at q2
                clear c1 c2
                go_wp2_with fail
                go_meet
                first | exact ⟨by simp, rfl⟩ | exact ⟨rfl, rfl⟩
            case rest =>
              obtain ⟨rfl, rfl⟩ := hcut
              clear q0 q1 q2 hfar
              go_upto_if 189 with fail
              go_cut [22] (fun v wx => v = .int .u64 ax ∧ w6 = wx)
              case first =>
                rcases HAX.out with ⟨ad, rfl, hx2, hcx⟩ | ⟨hx2, rfl⟩
                all_goals
                  clear HAX
                  go_wp2_with fail
                  go_meet
                  first | exact ⟨by simp, rfl⟩ | exact ⟨rfl, rfl⟩
              case rest =>
                obtain ⟨rfl, rfl⟩ := hcut
                clear HAX hc6
                rcases hpick with ⟨hv0, hp⟩ | ⟨y, rfl, ⟨ho, hp⟩ | ⟨ho, hp⟩⟩
                · go_wp2_with fail
                  go_roundg (16 - (x + 1))
                  case measure => have := HXX.out; omega
                  case rel => obtain ⟨x1, r1, r2, r3, r4, r5⟩ := FIN.out _ _ hp HAGX.out; exact ⟨x1, r1, r2, r3, r4, r5, rfl⟩
                · go_wp2_with fail
                  go_roundg (16 - (x + 1))
                  case measure => have := HXX.out; omega
                  case rel => obtain ⟨x1, r1, r2, r3, r4, r5⟩ := FIN.out _ _ hp HAGX.out; exact ⟨x1, r1, r2, r3, r4, r5, rfl⟩
                · go_wp2_with fail
                  go_roundg (16 - (x + 1))
                  case measure => have := HXX.out; omega
                  case rel => obtain ⟨x1, r1, r2, r3, r4, r5⟩ := FIN.out _ _ hp HAGV.out; exact ⟨x1, r1, r2, r3, r4, r5, rfl⟩
          · have hin' : incF F ww x = false := by simpa using hin
            have hps : pf (incF F ww) (x + 1) = pf (incF F ww) x := by rw [HPS.out, if_neg hin, List.append_nil]
            have HPS2 := Lib.hid hps
            have hcase : at2 F ww ww = false ∨ (at2 F ww ww = true ∧ x ≠ ww ∧ at2 F ww x = false) ∨ (at2 F ww ww = true ∧ x ≠ ww ∧ at2 F ww x = true ∧ at2 F x ww = false) := by
              unfold incF at hin'
              cases h0 : at2 F ww ww with
              | false => exact .inl rfl
              | true =>
                right
                rw [h0] at hin'
                by_cases e : x = ww
                · simp [e] at hin'
                · cases h1 : at2 F ww x with
                  | false => exact .inl ⟨rfl, e, rfl⟩
                  | true =>
                    rw [h1] at hin'
                    exact .inr ⟨rfl, e, rfl, by simpa [e] using hin'⟩
            clear hps hin hin' HPS
            rcases hcase with b0 | ⟨b0, hne, b1⟩ | ⟨b0, hne, b1, b2⟩
            · rw [b0] at q0
              clear b0
              go_wp2_with fail
              go_roundg (16 - (x + 1))
              case measure => have := HXX.out; omega
              case rel => exact ⟨x + 1, by have := HXX.out; omega, by go_num, by rw [HPS2.out], by rw [HPS2.out], by rw [HPS2.out], rfl⟩
            · rw [b0] at q0
              rw [b1] at q1
              have hneb : ((x : Int) != (ww : Int)) = true := by simp; omega
              clear b0 b1 hne
              go_wp2_with fail
              go_roundg (16 - (x + 1))
              case measure => have := HXX.out; omega
              case rel => exact ⟨x + 1, by have := HXX.out; omega, by go_num, by rw [HPS2.out], by rw [HPS2.out], by rw [HPS2.out], rfl⟩
            · rw [b0] at q0
              rw [b1] at q1
              rw [b2] at q2
              have hneb : ((x : Int) != (ww : Int)) = true := by simp; omega
              clear b0 b1 b2 hne
              go_wp2_with fail
              go_roundg (16 - (x + 1))
              case measure => have := HXX.out; omega
              case rel => exact ⟨x + 1, by have := HXX.out; omega, by go_num, by rw [HPS2.out], by rw [HPS2.out], by rw [HPS2.out], rfl⟩
        · obtain rfl : x = 16 := by have := HXX.out; omega
          have HWSE : Hid (ws ww = ii (pf (fun b => at2 L ww b) 16)) := by
            have e : (fun b => at2 L ww b) = (fun b => at2 L ww b) := rfl
            show _ = _
            rw [asc_pf (ws ww) (HASC.out ww) (HRNG.out ww hw16)]
            unfold pf
            congr 1
            refine List.filter_congr fun b hb => ?_
            rw [HAT.out ww b hw16 (by simpa using hb)]
          have HVI := Lib.hid (victim_in g ww ws A2 n2 c2 us w6 HG6.out hw16 (HA2.out.belowAll HBW6.out) HN2.out hN2)
          rw [HCE.out ww hw16] at HVI
          have hsz6 := HBW6.out.size
          have hpl16 := pf_le (incF F ww) 16
          have hvg := vict_ge us (pf (incF F ww) 16)
          generalize (pf (incF F ww) 16).length = np at *
          generalize hvp : vict us (pf (incF F ww) 16) = vb at *
          clear hvp
          generalize ageB us vb = ag at *
          go_wp2_with (first
            | (go_at_call 10; refine HVI.out.mono ?_; rintro e w7 ⟨rfl, hb7⟩; have HG7 := Lib.hid (HG6.out.only hb7); have HBM7 := Lib.hid (HBM6.out.below hb7 HBM6.out.lt); have HBF7 := Lib.hid (HBF6.out.below hb7 HBF6.out.lt); have HBW7 := Lib.hid (HBW6.out.trans (hb7.mono hsz6)); clear hb7)
            | (go_at_call 11; refine (for_in g ww ws w7 hw16 HG7.out).mono ?_; rintro e w8 ⟨v8, rfl, hm8, hb8⟩; obtain ⟨A8, c8, rfl, hlc8, hcm8, hrow8⟩ := hm8.form; have HG8 := Lib.hid (HG7.out.only hb8); have HBM8 := Lib.hid (HBM7.out.below hb8 HBM7.out.lt); have HBF8 := Lib.hid (HBF7.out.below hb8 HBF7.out.lt); have HBW8 := Lib.hid (HBW7.out.trans (hb8.mono HBW7.out.size)); have HROW8 := Lib.hid hrow8; clear hm8 hb8 hrow8))
          clear HG6 HBM6 HBF6 HBW6 HG7 HBM7 HBF7 HBW7
          rw [HWSE.out] at HROW8
          have hwl : (ws ww).length = (pf (fun b => at2 L ww b) 16).length := by rw [HWSE.out]; simp [ii]
          rw [hwl] at hlc8 ⊢
          clear hwl
          go_loopg [24, 25] 16 (fun q i i2 wx => ∃ x : Nat, q + x = 16 ∧ i2 = .int .i64 x ∧ i = .int .i64 (pf (fun b => at2 L ww b) x).length ∧ w8 = wx)
          case atStart => exact ⟨0, rfl, rfl, rfl, rfl⟩
          case round =>
            obtain ⟨x, hxx, rfl, rfl, rfl⟩ := hrel
            have HXX := Lib.hid hxx
            clear hxx
            have hfl := pf_le (fun b => at2 L ww b) x
            have HPS := Lib.hid (pf_succ (fun b => at2 L ww b) x)
            by_cases hx16 : x < 16
            · have hx16d : decide ((x : Int) < 16) = true := by simp; omega
              have q0 : w8.cell? ⟨mb, ww * 16 + x, none⟩ = some (.bool (at2 L ww x)) := by rw [HBM8.out.cell, bv_get L _ (by rw [HLL.out]; omega)]; rfl
              by_cases hin : at2 L ww x = true
              · obtain ⟨hpl, hpx⟩ := pf_at (fun b => at2 L ww b) x hx16 hin
                obtain ⟨ad7, rfl, hc7⟩ := HROW8.out.at_ (k := (pf (fun b => at2 L ww b) x).length) (u := .int .i64 x) (by
                  have e : (ii (pf (fun b => at2 L ww b) 16))[(pf (fun b => at2 L ww b) x).length]? = some (x : Int) := by
                    rw [List.getElem?_map, List.getElem?_eq_getElem hpl]
                    have : (pf (fun b => at2 L ww b) 16)[(pf (fun b => at2 L ww b) x).length] = x := by simpa [hpl] using hpx
                    simp [this]
                  rw [List.getElem?_map, e]
                  rfl)
                have hlen1 : Hid ((pf (fun b => at2 L ww b) (x + 1)).length = (pf (fun b => at2 L ww b) x).length + 1) := by show _ = _; rw [HPS.out, if_pos hin]; simp
                rw [hin] at q0
                clear hin hpx HPS
                generalize hlp : (pf (fun b => at2 L ww b) x).length = np at *
                clear hlp
                go_wp2_with fail
                go_roundg (16 - (x + 1))
                case measure => have := HXX.out; omega
                case rel => exact ⟨x + 1, by have := HXX.out; omega, by go_num, by rw [hlen1.out]; go_num, rfl⟩
              · have hlen1 : Hid ((pf (fun b => at2 L ww b) (x + 1)).length = (pf (fun b => at2 L ww b) x).length) := by show _ = _; rw [HPS.out, if_neg hin]; simp
                have hin' : at2 L ww x = false := by simpa using hin
                rw [hin'] at q0
                clear hin hin' HPS
                go_wp2_with fail
                go_roundg (16 - (x + 1))
                case measure => have := HXX.out; omega
                case rel => exact ⟨x + 1, by have := HXX.out; omega, by go_num, by rw [hlen1.out], rfl⟩
            · obtain rfl : x = 16 := by have := HXX.out; omega
              clear HPS
              go_wp2_with fail
              go_roundg (16 - (ww + 1))
              case measure => have := HWW.out; omega
              case rel => exact ⟨ww + 1, by have := HWW.out; omega, by go_num, HG8.out, HBM8.out, HBF8.out, HBW8.out⟩
    · obtain rfl : ww = 16 := by have := HWW.out; omega
      have HG := Lib.hid hg
      have HBM := Lib.hid hbm
      have HBF := Lib.hid hbf
      have HBW := Lib.hid hbw
      clear hg hbm hbf hbw
      go_wp2_with fail
      apply HEXIT.out
      · exact HG.out
      · exact HBW.out
end Go.Proofs.Ytmnakommidgmnaa
