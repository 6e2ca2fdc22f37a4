import Derived.Test.YtmnakommidgmnaaW10z
namespace Go.Proofs.Ytmnakommidgmnaa
open Go.RowKit
set_option linter.unusedVariables false

set_option maxHeartbeats 4000000 in
set_option maxRecDepth 100000 in
theorem war_loop (K : Act → World → Prop) (R : Ending → World → Prop) (A : Option Addr) (n c : Nat) (g mb fb : Nat) (A2 : Option Addr) (n2 c2 : Nat) (ws : Nat → List Int) (L : List Bool) (w wr : World)
    (hmf : mb ≠ fb) (hgf : g ≠ fb) (hfb : w.heap.size ≤ fb) (HG0 : Hid (Gr wr g ws)) (HB0 : Hid (Blk wr mb 27 (bv L))) (HF0 : Hid (Blk wr fb 27 (bv L))) (HW0 : Hid (Below w.heap.size w wr))
    (HLL : Hid (L.length = 256)) (HAT : Hid (∀ a b : Nat, a < 16 → b < 16 → at2 L a b = decide ((b : Int) ∈ ws a))) (HWAR : Hid (War ws 0 0 0 L))
    (HEXIT : Hid (∀ (x2 x3 x7 x8 x9 x10 x13 x14 x15 x16 x17 x18 x19 x20 x21 x22 x23 x24 x25 x26 x27 x28 x29 x30 x31 x32 x33 x34 x35 x36 x37 x38 x39 x40 x41 x42 x43 x44 x45 x46 x47 x48 x49 x50 x51 x52 x53 x54 x55 x56 x57 x58 x59 x60 x61 x62 x63 x64 x65 x66 x67 x68 x69 x70 x71 x72 x73 x74 x75 x76 x77 x78 x79 x80 x81 x82 x83 x84 x85 x86 x87 x88 x89 x90 x91 x92 x93 x94 x95 x96 x97 x98 x99 x100 x101 x102 x103 x104 x105 x106 x107 x108 x109 x110 x111 x112 x113 x114 x115 x116 x117 x118 x119 x120 x121 x122 x123 x124 x125 x126 x127 x128 x129 x130 x131 x132 x133 x134 x135 x136 x137 x138 x139 x140 x141 x142 x143 x144 x145 x146 x147 x148 x149 x150 x151 x152 x153 x154 x155 x156 x157 x158 x159 x160 x161 x162 x163 x164 x165 x166 x167 x168 x169 x170 x171 x172 x173 x174 x175 x176 x177 x178 x179 x180 x181 x182 x183 x184 x185 x186 x187 x188 x189 x190 x191 x192 x193 x194 x195 x196 x197 x198 x199 x200 x201 x202 x203 x204 x205 x206 x207 x208 x209 x210 x211 x212 x213 x214 x215 x216 x217 x218 x219 x220 x221 x222 x223 x224 x225 x226 x227 x228 x229 x230 x231 x232 x233 x234 x235 x236 x237 x238 x239 x240 x241 x242 x243 x244 x245 x246 x247 x248 x249 : Value) (av : Bool) (F : List Bool) (w' : World), War ws 16 0 0 F → AnyI L 16 0 0 av → Gr w' g ws → Blk w' mb 27 (bv L) → Blk w' fb 27 (bv F) → Below w.heap.size w w' → K ⟨(.slice A n c :: .slice A2 n2 c2 :: x2 :: x3 :: .bool false :: .pointer (some ⟨g, 0, none⟩) :: .pointer (some ⟨mb, 0, none⟩) :: x7 :: x8 :: x9 :: x10 :: .pointer (some ⟨fb, 0, none⟩) :: .bool av :: x13 :: x14 :: x15 :: x16 :: x17 :: x18 :: x19 :: x20 :: x21 :: x22 :: x23 :: x24 :: x25 :: x26 :: x27 :: x28 :: x29 :: x30 :: x31 :: x32 :: x33 :: x34 :: x35 :: x36 :: x37 :: x38 :: x39 :: x40 :: x41 :: x42 :: x43 :: x44 :: x45 :: x46 :: x47 :: x48 :: x49 :: x50 :: x51 :: x52 :: x53 :: x54 :: x55 :: x56 :: x57 :: x58 :: x59 :: x60 :: x61 :: x62 :: x63 :: x64 :: x65 :: x66 :: x67 :: x68 :: x69 :: x70 :: x71 :: x72 :: x73 :: x74 :: x75 :: x76 :: x77 :: x78 :: x79 :: x80 :: x81 :: x82 :: x83 :: x84 :: x85 :: x86 :: x87 :: x88 :: x89 :: x90 :: x91 :: x92 :: x93 :: x94 :: x95 :: x96 :: x97 :: x98 :: x99 :: x100 :: x101 :: x102 :: x103 :: x104 :: x105 :: x106 :: x107 :: x108 :: x109 :: x110 :: x111 :: x112 :: x113 :: x114 :: x115 :: x116 :: x117 :: x118 :: x119 :: x120 :: x121 :: x122 :: x123 :: x124 :: x125 :: x126 :: x127 :: x128 :: x129 :: x130 :: x131 :: x132 :: x133 :: x134 :: x135 :: x136 :: x137 :: x138 :: x139 :: x140 :: x141 :: x142 :: x143 :: x144 :: x145 :: x146 :: x147 :: x148 :: x149 :: x150 :: x151 :: x152 :: x153 :: x154 :: x155 :: x156 :: x157 :: x158 :: x159 :: x160 :: x161 :: x162 :: x163 :: x164 :: x165 :: x166 :: x167 :: x168 :: x169 :: x170 :: x171 :: x172 :: x173 :: x174 :: x175 :: x176 :: x177 :: x178 :: x179 :: x180 :: x181 :: x182 :: x183 :: x184 :: x185 :: x186 :: x187 :: x188 :: x189 :: x190 :: x191 :: x192 :: x193 :: x194 :: x195 :: x196 :: x197 :: x198 :: x199 :: x200 :: x201 :: x202 :: x203 :: x204 :: x205 :: x206 :: x207 :: x208 :: x209 :: x210 :: x211 :: x212 :: x213 :: x214 :: x215 :: x216 :: x217 :: x218 :: x219 :: x220 :: x221 :: x222 :: x223 :: x224 :: x225 :: x226 :: x227 :: x228 :: x229 :: x230 :: x231 :: x232 :: x233 :: x234 :: x235 :: x236 :: x237 :: x238 :: x239 :: x240 :: x241 :: x242 :: x243 :: x244 :: x245 :: x246 :: x247 :: x248 :: x249 :: []).toArray, []⟩ w'))
    (x2 x3 x7 x8 x9 x10 x14 x15 x16 x17 x18 x19 x20 x21 x22 x23 x24 x25 x26 x27 x28 x29 x30 x31 x32 x33 x34 x35 x36 x37 x38 x39 x40 x41 x42 x43 x44 x45 x46 x47 x48 x49 x50 x51 x52 x53 x54 x55 x56 x57 x58 x59 x60 x61 x62 x63 x64 x65 x66 x67 x68 x69 x70 x71 x72 x73 x74 x75 x76 x77 x78 x79 x80 x81 x82 x83 x84 x85 x86 x87 x88 x89 x90 x91 x92 x93 x94 x95 x96 x97 x98 x99 x100 x101 x102 x103 x104 x105 x106 x107 x108 x109 x110 x111 x112 x113 x114 x115 x116 x117 x118 x119 x120 x121 x122 x123 x124 x125 x126 x127 x128 x129 x130 x131 x132 x133 x134 x135 x136 x137 x138 x139 x140 x141 x142 x143 x144 x145 x146 x147 x148 x149 x150 x151 x152 x153 x154 x155 x156 x157 x158 x159 x160 x161 x162 x163 x164 x165 x166 x167 x168 x169 x170 x171 x172 x173 x174 x175 x176 x177 x178 x179 x180 x181 x182 x183 x184 x185 x186 x187 x188 x189 x190 x191 x192 x193 x194 x195 x196 x197 x198 x199 x200 x201 x202 x203 x204 x205 x206 x207 x208 x209 x210 x211 x212 x213 x214 x215 x216 x217 x218 x219 x220 x221 x222 x223 x224 x225 x226 x227 x228 x229 x230 x231 x232 x233 x234 x235 x236 x237 x238 x239 x240 x241 x242 x243 x244 x245 x246 x247 x248 x249 : Value) :
    Code.wp Try.prog (Code.loop body2) (Exit.inBlock 4 (Exit.then K (bodyPost Try.prog Try.f3 R))) ⟨(.slice A n c :: .slice A2 n2 c2 :: x2 :: x3 :: .bool false :: .pointer (some ⟨g, 0, none⟩) :: .pointer (some ⟨mb, 0, none⟩) :: x7 :: x8 :: x9 :: x10 :: .pointer (some ⟨fb, 0, none⟩) :: .bool false :: .int .i64 0 :: x14 :: x15 :: x16 :: x17 :: x18 :: x19 :: x20 :: x21 :: x22 :: x23 :: x24 :: x25 :: x26 :: x27 :: x28 :: x29 :: x30 :: x31 :: x32 :: x33 :: x34 :: x35 :: x36 :: x37 :: x38 :: x39 :: x40 :: x41 :: x42 :: x43 :: x44 :: x45 :: x46 :: x47 :: x48 :: x49 :: x50 :: x51 :: x52 :: x53 :: x54 :: x55 :: x56 :: x57 :: x58 :: x59 :: x60 :: x61 :: x62 :: x63 :: x64 :: x65 :: x66 :: x67 :: x68 :: x69 :: x70 :: x71 :: x72 :: x73 :: x74 :: x75 :: x76 :: x77 :: x78 :: x79 :: x80 :: x81 :: x82 :: x83 :: x84 :: x85 :: x86 :: x87 :: x88 :: x89 :: x90 :: x91 :: x92 :: x93 :: x94 :: x95 :: x96 :: x97 :: x98 :: x99 :: x100 :: x101 :: x102 :: x103 :: x104 :: x105 :: x106 :: x107 :: x108 :: x109 :: x110 :: x111 :: x112 :: x113 :: x114 :: x115 :: x116 :: x117 :: x118 :: x119 :: x120 :: x121 :: x122 :: x123 :: x124 :: x125 :: x126 :: x127 :: x128 :: x129 :: x130 :: x131 :: x132 :: x133 :: x134 :: x135 :: x136 :: x137 :: x138 :: x139 :: x140 :: x141 :: x142 :: x143 :: x144 :: x145 :: x146 :: x147 :: x148 :: x149 :: x150 :: x151 :: x152 :: x153 :: x154 :: x155 :: x156 :: x157 :: x158 :: x159 :: x160 :: x161 :: x162 :: x163 :: x164 :: x165 :: x166 :: x167 :: x168 :: x169 :: x170 :: x171 :: x172 :: x173 :: x174 :: x175 :: x176 :: x177 :: x178 :: x179 :: x180 :: x181 :: x182 :: x183 :: x184 :: x185 :: x186 :: x187 :: x188 :: x189 :: x190 :: x191 :: x192 :: x193 :: x194 :: x195 :: x196 :: x197 :: x198 :: x199 :: x200 :: x201 :: x202 :: x203 :: x204 :: x205 :: x206 :: x207 :: x208 :: x209 :: x210 :: x211 :: x212 :: x213 :: x214 :: x215 :: x216 :: x217 :: x218 :: x219 :: x220 :: x221 :: x222 :: x223 :: x224 :: x225 :: x226 :: x227 :: x228 :: x229 :: x230 :: x231 :: x232 :: x233 :: x234 :: x235 :: x236 :: x237 :: x238 :: x239 :: x240 :: x241 :: x242 :: x243 :: x244 :: x245 :: x246 :: x247 :: x248 :: x249 :: []).toArray, []⟩ wr := by
  conv => arg 2; arg 1; whnf
  go_loopg [12, 13] 16 (fun q v12 i wx => ∃ (kk : Nat) (av : Bool) (F : List Bool), q + kk = 16 ∧ i = .int .i64 kk ∧ v12 = .bool av ∧ War ws kk 0 0 F ∧ AnyI L kk 0 0 av ∧ Gr wx g ws ∧ Blk wx mb 27 (bv L) ∧ Blk wx fb 27 (bv F) ∧ Below w.heap.size w wx)
  case atStart => exact ⟨0, false, L, rfl, rfl, rfl, HWAR.out, ⟨by simp, by omega⟩, HG0.out, HB0.out, HF0.out, HW0.out⟩
  case round =>
    clear HG0 HB0 HF0 HW0 HWAR
    obtain ⟨kk, av, F, hkk, rfl, rfl, hwar, hany, hg, hbm, hbf, hbw⟩ := hrel
    have HKK := Lib.hid hkk
    have HWAR := Lib.hid hwar
    have HANY := Lib.hid hany
    have HG := Lib.hid hg
    have HBM := Lib.hid hbm
    have HBF := Lib.hid hbf
    have HBW := Lib.hid hbw
    clear hwar hany hg hbm hbf hbw
    by_cases hk16 : kk < 16
    · have hk16d : decide ((kk : Int) < 16) = true := by simp; omega
      go_wp2_with fail
      go_loopg [12, 14] 16 (fun q v12 i wx => ∃ (ii : Nat) (av : Bool) (F : List Bool), q + ii = 16 ∧ i = .int .i64 ii ∧ v12 = .bool av ∧ War ws kk ii 0 F ∧ AnyI L kk ii 0 av ∧ Gr wx g ws ∧ Blk wx mb 27 (bv L) ∧ Blk wx fb 27 (bv F) ∧ Below w.heap.size w wx)
      case atStart => exact ⟨0, av, F, rfl, rfl, rfl, HWAR.out, HANY.out, HG.out, HBM.out, HBF.out, HBW.out⟩
      case round =>
        clear HWAR HANY HG HBM HBF HBW
        obtain ⟨ii, av, F, hii, rfl, rfl, hwar, hany, hg, hbm, hbf, hbw⟩ := hrel
        have HII := Lib.hid hii
        have HWAR := Lib.hid hwar
        have HANY := Lib.hid hany
        have HG := Lib.hid hg
        have HBM := Lib.hid hbm
        have HBF := Lib.hid hbf
        have HBW := Lib.hid hbw
        clear hwar hany hg hbm hbf hbw
        by_cases hi16 : ii < 16
        · have hi16d : decide ((ii : Int) < 16) = true := by simp; omega
          go_wp2_with fail
          go_loopg [12, 15] 16 (fun q v12 i wx => ∃ (jj : Nat) (av : Bool) (F : List Bool), q + jj = 16 ∧ i = .int .i64 jj ∧ v12 = .bool av ∧ War ws kk ii jj F ∧ AnyI L kk ii jj av ∧ Gr wx g ws ∧ Blk wx mb 27 (bv L) ∧ Blk wx fb 27 (bv F) ∧ Below w.heap.size w wx)
          case atStart => exact ⟨0, av, F, rfl, rfl, rfl, HWAR.out, HANY.out, HG.out, HBM.out, HBF.out, HBW.out⟩
          case round =>
            clear HWAR HANY HG HBM HBF HBW
            obtain ⟨jj, av, F, hjj, rfl, rfl, hwar, hany, hg, hbm, hbf, hbw⟩ := hrel
            have HJJ := Lib.hid hjj
            have HWAR := Lib.hid hwar
            have HANY := Lib.hid hany
            have HG := Lib.hid hg
            have HBM := Lib.hid hbm
            have HBF := Lib.hid hbf
            have HBW := Lib.hid hbw
            clear hany hg hbm hbf hbw
            by_cases hj16 : jj < 16
            · have hFl := hwar.len
              have hLl := HLL.out
              have e1 : wr.cell? ⟨fb, ii * 16 + jj, none⟩ = some (.bool (at2 F ii jj)) := by rw [HBF.out.cell, bv_get F _ (by omega)]; rfl
              have e2 : wr.cell? ⟨fb, ii * 16 + kk, none⟩ = some (.bool (at2 F ii kk)) := by rw [HBF.out.cell, bv_get F _ (by omega)]; rfl
              have e3 : wr.cell? ⟨fb, kk * 16 + jj, none⟩ = some (.bool (at2 F kk jj)) := by rw [HBF.out.cell, bv_get F _ (by omega)]; rfl
              have ef : wr.frozen? ⟨fb, ii * 16 + jj, none⟩ = false := HBF.out.frozen _
              have em : wr.cell? ⟨mb, ii * 16 + jj, none⟩ = some (.bool (at2 L ii jj)) := by rw [HBM.out.cell, bv_get L _ (by omega)]; rfl
              have HST := Lib.hid (hwar.step hk16 hi16 hj16)
              have HAST := Lib.hid (HANY.out.step hi16 hj16)
              clear hwar hFl hLl
              generalize at2 F ii jj = f1 at *
              generalize at2 F ii kk = f2 at *
              generalize at2 F kk jj = f3 at *
              generalize at2 L ii jj = m1 at *
              have fin : ∀ x : Bool, x = (f1 || (f2 && f3)) → Hid (War ws kk ii (jj + 1) (F.set (ii * 16 + jj) x)) := fun x hx => by rw [hx]; exact HST.out
              have FIN := Lib.hid fin
              clear fin HST
              have hon : ∀ x : Bool, Only wr (wr.setCell ⟨fb, ii * 16 + jj, none⟩ (.bool x)).drew [fb] := fun x => ((Only.refl _ _).setCell (by simp) _).drew
              have hgs : ∀ x : Bool, Gr (wr.setCell ⟨fb, ii * 16 + jj, none⟩ (.bool x)).drew g ws := fun x => HG.out.of_only (hon x) (by simpa using hgf) (fun g' cur h => by simp; exact Blk.ne_ h HBF.out (by decide))
              have hms : ∀ x : Bool, Blk (wr.setCell ⟨fb, ii * 16 + jj, none⟩ (.bool x)).drew mb 27 (bv L) := fun x => (hon x).blk HBM.out (by simpa using hmf)
              have hfs : ∀ x : Bool, Blk (wr.setCell ⟨fb, ii * 16 + jj, none⟩ (.bool x)).drew fb 27 (bv (F.set (ii * 16 + jj) x)) := fun x => by
                have h := HBF.out.set_ (ii * 16 + jj) (.bool x)
                rw [bv_set] at h
                exact h
              have hws : ∀ x : Bool, Below w.heap.size w (wr.setCell ⟨fb, ii * 16 + jj, none⟩ (.bool x)).drew := fun x => (HBW.out.setCell (p := ⟨fb, ii * 16 + jj, none⟩) hfb _).drew
              have hasf : ∀ y : Bool, y = (av || m1) → AnyI L kk ii (jj + 1) y := fun y hy => by rw [hy]; exact HAST.out
              have HGS := Lib.hid hgs
              have HMS := Lib.hid hms
              have HFS := Lib.hid hfs
              have HWS := Lib.hid hws
              have HASF := Lib.hid hasf
              clear hon hgs hms hfs hws hasf HAST HANY HWAR
              cases f1
              · cases f2
                · go_wp2_with fail
                  go_region
                  all_goals go_wp2_with fail
                  all_goals
                    go_roundg (16 - (jj + 1))
                    case measure => have := HJJ.out; omega
                    case rel => exact ⟨jj + 1, _, F.set (ii * 16 + jj) false, by have := HJJ.out; omega, by go_num, rfl, (FIN.out false rfl).out, HASF.out _ (by first | exact or_t ‹_› | exact or_f ‹_›), HGS.out false, HMS.out false, HFS.out false, HWS.out false⟩
                · cases f3
                  · go_wp2_with fail
                    go_region
                    all_goals go_wp2_with fail
                    all_goals
                      go_roundg (16 - (jj + 1))
                      case measure => have := HJJ.out; omega
                      case rel => exact ⟨jj + 1, _, F.set (ii * 16 + jj) false, by have := HJJ.out; omega, by go_num, rfl, (FIN.out false rfl).out, HASF.out _ (by first | exact or_t ‹_› | exact or_f ‹_›), HGS.out false, HMS.out false, HFS.out false, HWS.out false⟩
                  · go_wp2_with fail
                    go_region
                    all_goals go_wp2_with fail
                    all_goals
                      go_roundg (16 - (jj + 1))
                      case measure => have := HJJ.out; omega
                      case rel => exact ⟨jj + 1, _, F.set (ii * 16 + jj) true, by have := HJJ.out; omega, by go_num, rfl, (FIN.out true rfl).out, HASF.out _ (by first | exact or_t ‹_› | exact or_f ‹_›), HGS.out true, HMS.out true, HFS.out true, HWS.out true⟩
              · go_wp2_with fail
                go_region
                all_goals go_wp2_with fail
                all_goals
                  go_roundg (16 - (jj + 1))
                  case measure => have := HJJ.out; omega
                  case rel => exact ⟨jj + 1, _, F.set (ii * 16 + jj) true, by have := HJJ.out; omega, by go_num, rfl, (FIN.out true rfl).out, HASF.out _ (by first | exact or_t ‹_› | exact or_f ‹_›), HGS.out true, HMS.out true, HFS.out true, HWS.out true⟩
            · obtain rfl : jj = 16 := by have := HJJ.out; omega
              go_wp2_with fail
              go_roundg (16 - (ii + 1))
              case measure => have := HII.out; omega
              case rel => exact ⟨ii + 1, av, F, by have := HII.out; omega, by go_num, rfl, HWAR.out.row, HANY.out.row, HG.out, HBM.out, HBF.out, HBW.out⟩
        · obtain rfl : ii = 16 := by have := HII.out; omega
          go_wp2_with fail
          go_roundg (16 - (kk + 1))
          case measure => have := HKK.out; omega
          case rel => exact ⟨kk + 1, av, F, by have := HKK.out; omega, by go_num, rfl, HWAR.out.phase, HANY.out.phase, HG.out, HBM.out, HBF.out, HBW.out⟩
    · obtain rfl : kk = 16 := by have := HKK.out; omega
      go_wp2_with fail
      apply HEXIT.out
      · exact HWAR.out
      · exact HANY.out
      · exact HG.out
      · exact HBM.out
      · exact HBF.out
      · exact HBW.out
end Go.Proofs.Ytmnakommidgmnaa
