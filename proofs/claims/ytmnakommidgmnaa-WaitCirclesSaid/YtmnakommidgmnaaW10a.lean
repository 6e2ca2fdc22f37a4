import Derived.Test.YtmnakommidgmnaaW10z
namespace Go.Proofs.Ytmnakommidgmnaa
open Go.RowKit
set_option linter.unusedVariables false

set_option maxHeartbeats 4000000 in
set_option maxRecDepth 100000 in
theorem acts_loop (K : Act → World → Prop) (R : Ending → World → Prop) (A : Option Addr) (n c : Nat) (g mb : Nat) (A2 : Option Addr) (n2 c2 : Nat) (w w2 : World)
    (hN : n ≤ 9223372036854775807) (HAC : Hid (Acts w A n)) (hmb : w.heap.size ≤ mb) (hgm : g < mb) (hgw : w.heap.size ≤ g) (HG2 : Hid (Gr w2 g (fun _ => []))) (HMB : Hid (Blk w2 mb 27 (bv (Z 256)))) (HBW2 : Hid (Below w.heap.size w w2))
    (HEXIT : Hid (∀ (x2 x3 x7 x8 x9 x10 x11 x12 x13 x14 x15 x16 x17 x18 x19 x20 x21 x22 x23 x24 x25 x26 x27 x28 x29 x30 x31 x32 x33 x34 x35 x36 x37 x38 x39 x40 x41 x42 x43 x44 x45 x46 x47 x48 x49 x50 x51 x52 x53 x54 x55 x56 x57 x58 x59 x60 x61 x62 x63 x64 x65 x66 x67 x68 x69 x70 x71 x72 x73 x74 x75 x76 x77 x78 x79 x80 x81 x82 x83 x84 x85 x86 x87 x88 x89 x90 x91 x92 x93 x94 x95 x96 x97 x98 x99 x100 x101 x102 x103 x104 x105 x106 x107 x108 x109 x110 x111 x112 x113 x114 x115 x116 x117 x118 x119 x120 x121 x122 x123 x124 x125 x126 x127 x128 x129 x130 x131 x132 x133 x134 x135 x136 x137 x138 x139 x140 x141 x142 x143 x144 x145 x146 x147 x148 x149 x150 x151 x152 x153 x154 x155 x156 x157 x158 x159 x160 x161 x162 x163 x164 x165 x166 x167 x168 x169 x170 x171 x172 x173 x174 x175 x176 x177 x178 x179 x180 x181 x182 x183 x184 x185 x186 x187 x188 x189 x190 x191 x192 x193 x194 x195 x196 x197 x198 x199 x200 x201 x202 x203 x204 x205 x206 x207 x208 x209 x210 x211 x212 x213 x214 x215 x216 x217 x218 x219 x220 x221 x222 x223 x224 x225 x226 x227 x228 x229 x230 x231 x232 x233 x234 x235 x236 x237 x238 x239 x240 x241 x242 x243 x244 x245 x246 x247 x248 x249 : Value) (ws : Nat → List Int) (L : List Bool) (w' : World), (∀ a : Nat, (ws a).Pairwise (· < ·)) → Gr w' g ws → Blk w' mb 27 (bv L) → L.length = 256 → (∀ a b : Nat, a < 16 → b < 16 → at2 L a b = decide ((b : Int) ∈ ws a)) → Below w.heap.size w w' → K ⟨(.slice A n c :: .slice A2 n2 c2 :: x2 :: x3 :: .bool false :: .pointer (some ⟨g, 0, none⟩) :: .pointer (some ⟨mb, 0, none⟩) :: x7 :: x8 :: x9 :: x10 :: x11 :: x12 :: x13 :: x14 :: x15 :: x16 :: x17 :: x18 :: x19 :: x20 :: x21 :: x22 :: x23 :: x24 :: x25 :: x26 :: x27 :: x28 :: x29 :: x30 :: x31 :: x32 :: x33 :: x34 :: x35 :: x36 :: x37 :: x38 :: x39 :: x40 :: x41 :: x42 :: x43 :: x44 :: x45 :: x46 :: x47 :: x48 :: x49 :: x50 :: x51 :: x52 :: x53 :: x54 :: x55 :: x56 :: x57 :: x58 :: x59 :: x60 :: x61 :: x62 :: x63 :: x64 :: x65 :: x66 :: x67 :: x68 :: x69 :: x70 :: x71 :: x72 :: x73 :: x74 :: x75 :: x76 :: x77 :: x78 :: x79 :: x80 :: x81 :: x82 :: x83 :: x84 :: x85 :: x86 :: x87 :: x88 :: x89 :: x90 :: x91 :: x92 :: x93 :: x94 :: x95 :: x96 :: x97 :: x98 :: x99 :: x100 :: x101 :: x102 :: x103 :: x104 :: x105 :: x106 :: x107 :: x108 :: x109 :: x110 :: x111 :: x112 :: x113 :: x114 :: x115 :: x116 :: x117 :: x118 :: x119 :: x120 :: x121 :: x122 :: x123 :: x124 :: x125 :: x126 :: x127 :: x128 :: x129 :: x130 :: x131 :: x132 :: x133 :: x134 :: x135 :: x136 :: x137 :: x138 :: x139 :: x140 :: x141 :: x142 :: x143 :: x144 :: x145 :: x146 :: x147 :: x148 :: x149 :: x150 :: x151 :: x152 :: x153 :: x154 :: x155 :: x156 :: x157 :: x158 :: x159 :: x160 :: x161 :: x162 :: x163 :: x164 :: x165 :: x166 :: x167 :: x168 :: x169 :: x170 :: x171 :: x172 :: x173 :: x174 :: x175 :: x176 :: x177 :: x178 :: x179 :: x180 :: x181 :: x182 :: x183 :: x184 :: x185 :: x186 :: x187 :: x188 :: x189 :: x190 :: x191 :: x192 :: x193 :: x194 :: x195 :: x196 :: x197 :: x198 :: x199 :: x200 :: x201 :: x202 :: x203 :: x204 :: x205 :: x206 :: x207 :: x208 :: x209 :: x210 :: x211 :: x212 :: x213 :: x214 :: x215 :: x216 :: x217 :: x218 :: x219 :: x220 :: x221 :: x222 :: x223 :: x224 :: x225 :: x226 :: x227 :: x228 :: x229 :: x230 :: x231 :: x232 :: x233 :: x234 :: x235 :: x236 :: x237 :: x238 :: x239 :: x240 :: x241 :: x242 :: x243 :: x244 :: x245 :: x246 :: x247 :: x248 :: x249 :: []).toArray, []⟩ w'))
    (x2 x3 x8 x9 x10 x11 x12 x13 x14 x15 x16 x17 x18 x19 x20 x21 x22 x23 x24 x25 x26 x27 x28 x29 x30 x31 x32 x33 x34 x35 x36 x37 x38 x39 x40 x41 x42 x43 x44 x45 x46 x47 x48 x49 x50 x51 x52 x53 x54 x55 x56 x57 x58 x59 x60 x61 x62 x63 x64 x65 x66 x67 x68 x69 x70 x71 x72 x73 x74 x75 x76 x77 x78 x79 x80 x81 x82 x83 x84 x85 x86 x87 x88 x89 x90 x91 x92 x93 x94 x95 x96 x97 x98 x99 x100 x101 x102 x103 x104 x105 x106 x107 x108 x109 x110 x111 x112 x113 x114 x115 x116 x117 x118 x119 x120 x121 x122 x123 x124 x125 x126 x127 x128 x129 x130 x131 x132 x133 x134 x135 x136 x137 x138 x139 x140 x141 x142 x143 x144 x145 x146 x147 x148 x149 x150 x151 x152 x153 x154 x155 x156 x157 x158 x159 x160 x161 x162 x163 x164 x165 x166 x167 x168 x169 x170 x171 x172 x173 x174 x175 x176 x177 x178 x179 x180 x181 x182 x183 x184 x185 x186 x187 x188 x189 x190 x191 x192 x193 x194 x195 x196 x197 x198 x199 x200 x201 x202 x203 x204 x205 x206 x207 x208 x209 x210 x211 x212 x213 x214 x215 x216 x217 x218 x219 x220 x221 x222 x223 x224 x225 x226 x227 x228 x229 x230 x231 x232 x233 x234 x235 x236 x237 x238 x239 x240 x241 x242 x243 x244 x245 x246 x247 x248 x249 : Value) :
    Code.wp Try.prog (Code.loop body1) (Exit.inBlock 0 (Exit.then K (bodyPost Try.prog Try.f3 R))) ⟨(.slice A n c :: .slice A2 n2 c2 :: x2 :: x3 :: .bool false :: .pointer (some ⟨g, 0, none⟩) :: .pointer (some ⟨mb, 0, none⟩) :: .int .i64 0 :: x8 :: x9 :: x10 :: x11 :: x12 :: x13 :: x14 :: x15 :: x16 :: x17 :: x18 :: x19 :: x20 :: x21 :: x22 :: x23 :: x24 :: x25 :: x26 :: x27 :: x28 :: x29 :: x30 :: x31 :: x32 :: x33 :: x34 :: x35 :: x36 :: x37 :: x38 :: x39 :: x40 :: x41 :: x42 :: x43 :: x44 :: x45 :: x46 :: x47 :: x48 :: x49 :: x50 :: x51 :: x52 :: x53 :: x54 :: x55 :: x56 :: x57 :: x58 :: x59 :: x60 :: x61 :: x62 :: x63 :: x64 :: x65 :: x66 :: x67 :: x68 :: x69 :: x70 :: x71 :: x72 :: x73 :: x74 :: x75 :: x76 :: x77 :: x78 :: x79 :: x80 :: x81 :: x82 :: x83 :: x84 :: x85 :: x86 :: x87 :: x88 :: x89 :: x90 :: x91 :: x92 :: x93 :: x94 :: x95 :: x96 :: x97 :: x98 :: x99 :: x100 :: x101 :: x102 :: x103 :: x104 :: x105 :: x106 :: x107 :: x108 :: x109 :: x110 :: x111 :: x112 :: x113 :: x114 :: x115 :: x116 :: x117 :: x118 :: x119 :: x120 :: x121 :: x122 :: x123 :: x124 :: x125 :: x126 :: x127 :: x128 :: x129 :: x130 :: x131 :: x132 :: x133 :: x134 :: x135 :: x136 :: x137 :: x138 :: x139 :: x140 :: x141 :: x142 :: x143 :: x144 :: x145 :: x146 :: x147 :: x148 :: x149 :: x150 :: x151 :: x152 :: x153 :: x154 :: x155 :: x156 :: x157 :: x158 :: x159 :: x160 :: x161 :: x162 :: x163 :: x164 :: x165 :: x166 :: x167 :: x168 :: x169 :: x170 :: x171 :: x172 :: x173 :: x174 :: x175 :: x176 :: x177 :: x178 :: x179 :: x180 :: x181 :: x182 :: x183 :: x184 :: x185 :: x186 :: x187 :: x188 :: x189 :: x190 :: x191 :: x192 :: x193 :: x194 :: x195 :: x196 :: x197 :: x198 :: x199 :: x200 :: x201 :: x202 :: x203 :: x204 :: x205 :: x206 :: x207 :: x208 :: x209 :: x210 :: x211 :: x212 :: x213 :: x214 :: x215 :: x216 :: x217 :: x218 :: x219 :: x220 :: x221 :: x222 :: x223 :: x224 :: x225 :: x226 :: x227 :: x228 :: x229 :: x230 :: x231 :: x232 :: x233 :: x234 :: x235 :: x236 :: x237 :: x238 :: x239 :: x240 :: x241 :: x242 :: x243 :: x244 :: x245 :: x246 :: x247 :: x248 :: x249 :: []).toArray, []⟩ w2 := by
  conv => arg 2; arg 1; whnf
  go_loopg [7, 8] 30 (fun q i v8 wr => ∃ (k : Nat) (ws : Nat → List Int) (L : List Bool), q + k = 30 ∧ i = .int .i64 k ∧ Gr wr g ws ∧ Blk wr mb 27 (bv L) ∧ L.length = 256 ∧ (∀ a b, a < 16 → b < 16 → at2 L a b = decide ((b : Int) ∈ ws a)) ∧ (∀ a, (ws a).Pairwise (· < ·)) ∧ Below w.heap.size w wr)
  case atStart =>
    refine ⟨0, _, Z 256, rfl, rfl, HG2.out, HMB.out, by simp [Z], fun a b ha hb => ?_, fun a => List.Pairwise.nil, HBW2.out⟩
    unfold at2 Z
    rw [rep_false]
    simp
  case round =>
    clear HG2 HMB HBW2
    obtain ⟨k, ws, L, hk, rfl, hg, hbm, hll, hat, hasc, hbw⟩ := hrel
    have HASC := Lib.hid hasc
    have HG := Lib.hid hg
    have HBM := Lib.hid hbm
    have HLL := Lib.hid hll
    have HAT := Lib.hid hat
    have HBW := Lib.hid hbw
    have hsz := hbw.size
    clear hg hbm hll hat hbw hasc
    by_cases hlt : k < n ∧ k < 30
    · obtain ⟨hkn, hk30⟩ := hlt
      obtain ⟨ad, x, B, m, c', xs, rfl, hadb, hx, hy, hxl, hm, hrow⟩ := HAC.out k hkn
      have hx' : wr.cell? (ad.add (k * 2)) = some (.int .i64 x) := (HBW.out.cell (by rw [block_of_add]; exact hadb)).trans hx
      have hy' : wr.cell? ⟨(ad.add (k * 2)).block, (ad.add (k * 2)).off + 1, none⟩ = some (.slice B m c') := (HBW.out.cell (by show (ad.add (k * 2)).block < _; rw [block_of_add]; exact hadb)).trans hy
      have HROW := Lib.hid hrow
      have HXL := Lib.hid hxl
      clear hx hy hrow hxl
      go_upto_region 7 with fail
      go_cut [8] (fun v8 wx => ∃ ab, v8 = .pointer (some ⟨ab, 0, none⟩) ∧ w.heap.size ≤ ab ∧ Blk wx ab 31 #[.int .i64 x, .slice B m c'] ∧ Gr wx g ws ∧ Blk wx mb 27 (bv L) ∧ Below w.heap.size w wx)
      case first =>
        go_upto_region 8 with fail
        go_meet
        exact ⟨_, rfl, hsz, Blk.new _ _ _, HG.out.only ((Below.refl _ _).alloc (Nat.le_refl _) _), HBM.out.alloc _, HBW.out.alloc hsz _⟩
      case rest =>
        obtain ⟨ab, rfl, hab, hb8, hg, hbm, hbw⟩ := hcut
        have hga : g ≠ ab := by
          obtain ⟨cs, hbg, _⟩ := hg.rows
          exact Blk.ne_ hbg hb8 (by decide)
        have hma : mb ≠ ab := Blk.ne_ hbm hb8 (by decide)
        have c0 : wc.cell? ⟨ab, 0, none⟩ = some (.int .i64 x) := hb8.cell 0
        have c1 : wc.cell? ⟨ab, 1, none⟩ = some (.slice B m c') := hb8.cell 1
        have HB8 := Lib.hid hb8
        have HGc := Lib.hid hg
        have HBMc := Lib.hid hbm
        have HBWc := Lib.hid hbw
        have hszc := hbw.size
        clear hb8 hg hbm hbw HG HBM HBW hx' hy'
        go_wp2_with fail
        refine (set_all g x ws B m c' xs wc HGc.out (HROW.out.belowAll HBWc.out) HXL.out hm).mono ?_
        rintro e w3 ⟨rfl, hg3, ho3⟩
        have hgW : w.heap.size ≤ g := by omega
        have HG3 := Lib.hid hg3
        have HB8c := Lib.hid (ho3.blk HB8.out (by simpa using fun h : ab = g => hga h.symm))
        have HBM3 := Lib.hid (ho3.blk HBMc.out (by simpa using fun h : mb = g => by omega))
        have HBW3 : Hid (Below w.heap.size w w3) := HBWc.out.trans (ho3.below hszc (by simpa using hgW))
        clear hg3 ho3 HGc HBMc HBWc HB8 c0 c1
        have c0 : w3.cell? ⟨ab, 0, none⟩ = some (.int .i64 x) := HB8c.out.cell 0
        have c1 : w3.cell? ⟨ab, 1, none⟩ = some (.slice B m c') := HB8c.out.cell 1
        by_cases hin : 0 ≤ x ∧ x < 16
        · obtain ⟨xn, rfl⟩ := Int.eq_ofNat_of_zero_le hin.1
          have hx16 : xn < 16 := by omega
          have HGn : Hid (Gr w3 g (upd ws xn (norm xn xs))) := by
            have h := HG3.out
            rwa [if_pos hin, Int.toNat_natCast] at h
          clear HG3 hin
          have hth : w3.there mb (xn * 16) (bv (Z 16)).size := fun j hj => by
            rw [bv_size] at hj
            have hj' : j < 16 := by simpa [Z] using hj
            refine ⟨?_, HBM3.out.frozen _⟩
            rw [HBM3.out.cell, bv_get L _ (by rw [HLL.out]; omega)]
            rfl
          have HTH := Lib.hid hth
          clear hth
          go_upto_region 10 with fail
          go_wp2_with (refine wpList_store_mid rfl 26 (.tmp 61) (.tmp 60) rfl mb (xn * 16) (bv (Z 16)) rfl rfl HTH.out (by kernel_rfl) (bv_one _) ?_)
          obtain ⟨L1, hb1, hl1, hg1, ho1⟩ := seg_blk (Z 16) (xn * 16) HBM3.out (by rw [HLL.out]; simp [Z]; omega)
          have hw4 : w3.setCells mb (xn * 16) (bv (Z 16)).toList = w3.setCells mb (xn * 16) ((Z 16).map Value.bool) := by simp [bv]
          rw [hw4]
          have HL1 : Hid (∀ a b, a < 16 → b < 16 → at2 L1 a b = if a = xn then false else at2 L a b) := by
            intro a b ha hb
            unfold at2
            rw [hg1 (a * 16 + b)]
            by_cases e : a = xn
            · rw [if_pos (by simp [Z]; omega), if_pos e]; exact rep_false _ _
            · rw [if_neg (by simp [Z]; omega), if_neg e]
          have HLN : Hid (L1.length = 256) := hl1.trans HLL.out
          have HB4 := Lib.hid hb1
          have HA4 : Hid (Blk (w3.setCells mb (xn * 16) ((Z 16).map Value.bool)) ab 31 #[.int .i64 xn, .slice B m c']) := ho1.blk HB8c.out (by simpa using fun h : ab = mb => hma h.symm)
          have HG4 : Hid (Gr (w3.setCells mb (xn * 16) ((Z 16).map Value.bool)) g (upd ws xn (norm xn xs))) :=
            HGn.out.of_only ho1 (by simp; omega) (fun g' cur h => by simp; exact Blk.ne_ h HBM3.out (by decide))
          have HW4 : Hid (Below w.heap.size w (w3.setCells mb (xn * 16) ((Z 16).map Value.bool))) := HBW3.out.trans (ho1.below HBW3.out.size (by simpa using hmb))
          clear hb1 hl1 hg1 ho1 hw4 HTH HGn HBM3 HB8c c0 c1 HBW3
          generalize w3.setCells mb (xn * 16) ((Z 16).map Value.bool) = w4 at *
          go_wp2_with fail
          go_loopg [9] m (fun q i w5 => ∃ (k2 : Nat) (L2 : List Bool), q + k2 = m ∧ i = .int .i64 k2 ∧ Gr w5 g (upd ws xn (norm xn xs)) ∧ Blk w5 mb 27 (bv L2) ∧ L2.length = 256 ∧
            (∀ a b, a < 16 → b < 16 → at2 L2 a b = if a = xn then decide ((b : Int) ∈ (xs.take k2).filter (okB xn)) else at2 L a b) ∧ Blk w5 ab 31 #[.int .i64 xn, .slice B m c'] ∧ Below w.heap.size w w5)
          case atStart => exact ⟨0, L1, by omega, rfl, HG4.out, HB4.out, HLN.out, fun a b ha hb => by rw [HL1.out a b ha hb]; simp, HA4.out, HW4.out⟩
          case round =>
            clear HG4 HB4 HLN HL1 HA4 HW4
            rename_i gk2
            obtain ⟨k2, L2, hk2, rfl, hg5, hb5, hl5, hat5, ha5, hw5⟩ := hrel
            have HG5 := Lib.hid hg5
            have HB5 := Lib.hid hb5
            have HL5 := Lib.hid hl5
            have HAT5 := Lib.hid hat5
            have HA5 := Lib.hid ha5
            have HW5 := Lib.hid hw5
            have c0 : wr.cell? ⟨ab, 0, none⟩ = some (.int .i64 xn) := ha5.cell 0
            have c1 : wr.cell? ⟨ab, 1, none⟩ = some (.slice B m c') := ha5.cell 1
            clear hg5 hb5 hl5 hat5 ha5 hw5
            by_cases hlt2 : k2 < m
            · have hkx : Hid (k2 < xs.length) := by rw [HXL.out]; exact hlt2
              obtain ⟨ad2, rfl, hx2⟩ := (HROW.out.belowAll HW5.out).at_ (k := k2) (u := .int .i64 (xs.getD k2 0)) (by simp [iv, List.getElem?_eq_getElem hkx.out])
              by_cases hok : okB xn (xs.getD k2 0) = true
              · have HS := Lib.hid (take_filter_hit xn xs k2 hkx.out hok)
                have hx0 : 0 ≤ xs.getD k2 0 ∧ xs.getD k2 0 < 16 ∧ xs.getD k2 0 ≠ xn := by simpa [okB, and_assoc] using hok
                clear hok
                generalize xs.getD k2 0 = x2 at *
                obtain ⟨h1, h2, h3⟩ := hx0
                obtain ⟨yn, rfl⟩ := Int.eq_ofNat_of_zero_le h1
                have hne : ((yn : Int) != (xn : Int)) = true := by simpa using h3
                have hyn : yn < 16 := by omega
                have hcb : wr.cell? ⟨mb, xn * 16 + yn, none⟩ = some (.bool (L2.getD (xn * 16 + yn) false)) := by
                  rw [HB5.out.cell, bv_get L2 _ (by rw [HL5.out]; omega)]
                have hfb := HB5.out.frozen (xn * 16 + yn)
                clear h3
                go_wp2_with fail
                go_roundg (gk - 1)
                case measure => omega
                case rel =>
                  have hon : Only wr (wr.setCell ⟨mb, xn * 16 + yn, none⟩ (.bool true)) [mb] := (Only.refl _ _).setCell (by simp) _
                  refine ⟨k2 + 1, L2.set (xn * 16 + yn) true, by omega, by go_num, HG5.out.of_only hon (by simp; omega) (fun g' cur h => by simp; exact Blk.ne_ h HB5.out (by decide)), ?_, by simpa using HL5.out, fun a b ha hb => ?_, hon.blk HA5.out (by simpa using fun h : ab = mb => hma h.symm), HW5.out.setCell hmb _⟩
                  · have h := HB5.out.set_ (xn * 16 + yn) (.bool true)
                    rwa [bv_set] at h
                  · rw [at2_set L2 true HL5.out hx16 hyn ha hb, HAT5.out a b ha hb, HS.out]
                    by_cases e : a = xn
                    · subst e
                      by_cases e2 : b = yn
                      · subst e2; simp
                      · rw [if_neg (by simp [e2]), if_pos rfl, if_pos rfl]
                        have e3 : (b : Int) ≠ (yn : Int) := by omega
                        simp [e3]
                    · rw [if_neg (by simp [e]), if_neg e, if_neg e]
              · have hok' : okB xn (xs.getD k2 0) = false := by simpa using hok
                have HS := Lib.hid (take_filter_miss xn xs k2 hkx.out hok')
                have hx0 : xs.getD k2 0 < 0 ∨ 16 ≤ xs.getD k2 0 ∨ (xs.getD k2 0 = xn ∧ 0 ≤ xs.getD k2 0 ∧ xs.getD k2 0 < 16) := by
                  by_cases h : 0 ≤ xs.getD k2 0 ∧ xs.getD k2 0 < 16
                  · right; right
                    by_cases e : xs.getD k2 0 = (xn : Int)
                    · exact ⟨e, h⟩
                    · rw [okB, decide_eq_true h.1, decide_eq_true h.2, decide_eq_true e] at hok'
                      cases hok'
                  · omega
                clear hok hok'
                generalize xs.getD k2 0 = x2 at *
                rcases hx0 with hx0 | hx0 | ⟨rfl, hx0, hx1⟩
                · go_wp2_with fail
                  go_roundg (gk - 1)
                  case measure => omega
                  case rel => exact ⟨k2 + 1, L2, by omega, by go_num, HG5.out, HB5.out, HL5.out, fun a b ha hb => by rw [HAT5.out a b ha hb, HS.out], HA5.out, HW5.out⟩
                · go_wp2_with fail
                  go_roundg (gk - 1)
                  case measure => omega
                  case rel => exact ⟨k2 + 1, L2, by omega, by go_num, HG5.out, HB5.out, HL5.out, fun a b ha hb => by rw [HAT5.out a b ha hb, HS.out], HA5.out, HW5.out⟩
                · go_wp2_with fail
                  go_roundg (gk - 1)
                  case measure => omega
                  case rel => exact ⟨k2 + 1, L2, by omega, by go_num, HG5.out, HB5.out, HL5.out, fun a b ha hb => by rw [HAT5.out a b ha hb, HS.out], HA5.out, HW5.out⟩
            · have hfull : Hid (∀ a b, a < 16 → b < 16 → at2 L2 a b = decide ((b : Int) ∈ upd ws xn (norm xn xs) a)) := by
                intro a b ha hb
                rw [HAT5.out a b ha hb]
                unfold upd
                by_cases e : a = xn
                · rw [if_pos e, if_pos e, List.take_of_length_le (by rw [HXL.out]; omega)]
                  congr 1
                  rw [norm_mem, List.mem_filter]
                · rw [if_neg e, if_neg e]
                  exact HAT.out a b ha hb
              go_wp2_with fail
              go_roundg (30 - (k + 1))
              case measure => omega
              case rel => exact ⟨k + 1, upd ws xn (norm xn xs), L2, by omega, by go_num, HG5.out, HB5.out, HL5.out, hfull.out, fun a => (by unfold upd; split; exact norm_lt _ _; exact HASC.out a), HW5.out⟩
        · have HGn : Hid (Gr w3 g ws) := by
            have h := HG3.out
            rwa [if_neg hin] at h
          clear HG3
          by_cases hneg : x < 0
          all_goals
            go_wp2_with fail
            go_roundg (gk - 1)
            case measure => omega
            case rel => exact ⟨k + 1, ws, L, by omega, by go_num, HGn.out, HBM3.out, HLL.out, HAT.out, HASC.out, HBW3.out⟩
    · go_upto_region 5 with fail
      go_cut [37] (fun v wx => v = .bool false ∧ wr = wx)
      case first =>
        by_cases hkn : k < n
        all_goals
          go_wp2_with fail
          go_meet
          first | exact ⟨by simp; omega, rfl⟩ | exact ⟨by simp, rfl⟩
      case rest =>
        obtain ⟨rfl, rfl⟩ := hcut
        go_wp2_with fail
        apply HEXIT.out
        · exact HASC.out
        · exact HG.out
        · exact HBM.out
        · exact HLL.out
        · exact HAT.out
        · exact HBW.out
end Go.Proofs.Ytmnakommidgmnaa
