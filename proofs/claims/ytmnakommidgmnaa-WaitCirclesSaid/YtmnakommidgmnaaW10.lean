import Derived.Test.YtmnakommidgmnaaW10a
import Derived.Test.YtmnakommidgmnaaW10b
import Derived.Test.YtmnakommidgmnaaW10c
namespace Go.Proofs.Ytmnakommidgmnaa
open Go.RowKit
set_option linter.unusedVariables false

set_option maxHeartbeats 4000000 in
set_option maxRecDepth 100000 in
theorem circles_walk (A : Option Addr) (n c : Nat) (A2 : Option Addr) (n2 c2 : Nat) (us : List Int) (w : World) (hN : n ≤ 9223372036854775807) (hacts : Acts w A n)
    (hA2 : Row w A2 (uv us)) (hn2 : us.length = n2) (hN2 : n2 ≤ 9223372036854775807) :
    Calls Try.prog 3 #[.slice A n c, .slice A2 n2 c2] w fun e w' => e = .returned (.bool true) ∧ Below w.heap.size w w' := by
  have HAC := Lib.hid hacts
  have HA2 := Lib.hid hA2
  have HN2 := Lib.hid hn2
  have hz := zero27
  clear hacts hA2 hn2
  generalize hZ : bv (Z 256) = Z0 at hz
  have HZ := Lib.hid hZ
  clear hZ
  have hzs : Z0.size = 256 := by rw [← HZ.out, bv_size]; rfl
  have hst := fun w1 => run_storeCells_new (P := Try.prog) w1 27 Z0 Z0 (by rw [hzs]; exact size27) rfl (by rw [← HZ.out]; exact bv_one _)
  go_enter Try.func3, Try.ntmps3
  go_wp2_with (first
    | (go_at_call 6; refine (new_any _).mono ?_; rintro e w1 ⟨g, rfl, hgw, hg, hb⟩; have HG := Lib.hid hg; have HB := Lib.hid hb; clear hg hb)
    | (go_at_call 7; refine (awake_ok _).mono ?_; rintro e w2 ⟨rfl, hb⟩; have HB2 := Lib.hid hb; clear hb))
  have hmb : w.heap.size ≤ w1.heap.size := HB.out.size
  have hgm : g < w1.heap.size := by obtain ⟨cs, hb', _⟩ := HG.out.rows; exact hb'.lt
  have HMB : Hid (Blk w2 w1.heap.size 27 (bv (Z 256))) := by
    have h := (Blk.new w1 27 Z0).below HB2.out (by simp)
    rw [← HZ.out] at h
    exact h
  have HG2 : Hid (Gr w2 g (fun _ => [])) := (HG.out.only ((Below.refl _ _).alloc (Nat.le_refl _) (.cells Z0 27))).only HB2.out
  have HBW2 : Hid (Below w.heap.size w w2) := (HB.out.alloc hmb _).trans (HB2.out.mono (by simp; omega))
  clear HG HB HB2
  generalize w1.heap.size = mb at *
  refine acts_loop _ _ A n c g mb A2 n2 c2 w w2 hN HAC hmb hgm hgw HG2 HMB HBW2 (Lib.hid ?_) _ _ _ _ _ _ _ _ _ _ _ _ _ _ _ _ _ _ _ _ _ _ _ _ _ _ _ _ _ _ _ _ _ _ _ _ _ _ _ _ _ _ _ _ _ _ _ _ _ _ _ _ _ _ _ _ _ _ _ _ _ _ _ _ _ _ _ _ _ _ _ _ _ _ _ _ _ _ _ _ _ _ _ _ _ _ _ _ _ _ _ _ _ _ _ _ _ _ _ _ _ _ _ _ _ _ _ _ _ _ _ _ _ _ _ _ _ _ _ _ _ _ _ _ _ _ _ _ _ _ _ _ _ _ _ _ _ _ _ _ _ _ _ _ _ _ _ _ _ _ _ _ _ _ _ _ _ _ _ _ _ _ _ _ _ _ _ _ _ _ _ _ _ _ _ _ _ _ _ _ _ _ _ _ _ _ _ _ _ _ _ _ _ _ _ _ _ _ _ _ _ _ _ _ _ _ _ _ _ _ _ _ _ _ _ _ _ _ _ _ _ _ _ _ _ _ _ _ _ _ _ _ _ _ _ _ _ _ _ _ _ _ _ _
  intro x2 x3 x7 x8 x9 x10 x11 x12 x13 x14 x15 x16 x17 x18 x19 x20 x21 x22 x23 x24 x25 x26 x27 x28 x29 x30 x31 x32 x33 x34 x35 x36 x37 x38 x39 x40 x41 x42 x43 x44 x45 x46 x47 x48 x49 x50 x51 x52 x53 x54 x55 x56 x57 x58 x59 x60 x61 x62 x63 x64 x65 x66 x67 x68 x69 x70 x71 x72 x73 x74 x75 x76 x77 x78 x79 x80 x81 x82 x83 x84 x85 x86 x87 x88 x89 x90 x91 x92 x93 x94 x95 x96 x97 x98 x99 x100 x101 x102 x103 x104 x105 x106 x107 x108 x109 x110 x111 x112 x113 x114 x115 x116 x117 x118 x119 x120 x121 x122 x123 x124 x125 x126 x127 x128 x129 x130 x131 x132 x133 x134 x135 x136 x137 x138 x139 x140 x141 x142 x143 x144 x145 x146 x147 x148 x149 x150 x151 x152 x153 x154 x155 x156 x157 x158 x159 x160 x161 x162 x163 x164 x165 x166 x167 x168 x169 x170 x171 x172 x173 x174 x175 x176 x177 x178 x179 x180 x181 x182 x183 x184 x185 x186 x187 x188 x189 x190 x191 x192 x193 x194 x195 x196 x197 x198 x199 x200 x201 x202 x203 x204 x205 x206 x207 x208 x209 x210 x211 x212 x213 x214 x215 x216 x217 x218 x219 x220 x221 x222 x223 x224 x225 x226 x227 x228 x229 x230 x231 x232 x233 x234 x235 x236 x237 x238 x239 x240 x241 x242 x243 x244 x245 x246 x247 x248 x249 ws L wr hasc hg hbm hll hat hbw
  have HASC := Lib.hid hasc
  have HG := Lib.hid hg
  have HBM := Lib.hid hbm
  have HLL := Lib.hid hll
  have HAT := Lib.hid hat
  have HBW := Lib.hid hbw
  have hsz := hbw.size
  clear hg hbm hll hat hbw hasc HG2 HMB HBW2
  have hra : wr.rangeAt mb 0 (bv L).toList := fun j v hv => by rw [Nat.zero_add, HBM.out.cell]; simpa using hv
  have HRA := Lib.hid hra
  have HSZ : Hid ((Try.prog.info? 27).map (·.size) = some (bv L).toList.length) := by show _ = _; rw [size27]; simp [bv, HLL.out]
  have hls : (bv L).size = 256 := by rw [bv_size]; exact HLL.out
  have hst2 := fun w1 => run_storeCells_new (P := Try.prog) w1 27 Z0 (bv L) (by rw [hls]; exact size27) (by rw [hls]; exact hzs) (bv_one _)
  clear hra
  go_wp2_with (refine wpList_load_mid rfl 27 (.tmp 6) rfl mb 0 rfl (bv L).toList _ HRA.out Try.underlying27 rfl HSZ.out ?_; rw [Array.toArray_toList])
  have HG0 : Hid (Gr (wr.alloc (.cells (bv L) 27)) g ws) := HG.out.only ((Below.refl _ _).alloc (Nat.le_refl _) _)
  have HB0 : Hid (Blk (wr.alloc (.cells (bv L) 27)) mb 27 (bv L)) := HBM.out.alloc _
  have HF0 : Hid (Blk (wr.alloc (.cells (bv L) 27)) wr.heap.size 27 (bv L)) := Blk.new _ _ _
  have HW0 : Hid (Below w.heap.size w (wr.alloc (.cells (bv L) 27))) := HBW.out.alloc hsz _
  have hmf : mb ≠ wr.heap.size := Nat.ne_of_lt HBM.out.lt
  have hgf : g ≠ wr.heap.size := by have := HBM.out.lt; omega
  have hfb : w.heap.size ≤ wr.heap.size := hsz
  have HWAR : Hid (War ws 0 0 0 L) := War.begin HLL.out HAT.out
  clear HG HBM HBW HRA HSZ hst hst2 hz hls hzs HZ HAC
  generalize wr.heap.size = fb at *
  refine war_loop _ _ A n c g mb fb A2 n2 c2 ws L w _ hmf hgf hfb HG0 HB0 HF0 HW0 HLL HAT HWAR (Lib.hid ?_) _ _ _ _ _ _ _ _ _ _ _ _ _ _ _ _ _ _ _ _ _ _ _ _ _ _ _ _ _ _ _ _ _ _ _ _ _ _ _ _ _ _ _ _ _ _ _ _ _ _ _ _ _ _ _ _ _ _ _ _ _ _ _ _ _ _ _ _ _ _ _ _ _ _ _ _ _ _ _ _ _ _ _ _ _ _ _ _ _ _ _ _ _ _ _ _ _ _ _ _ _ _ _ _ _ _ _ _ _ _ _ _ _ _ _ _ _ _ _ _ _ _ _ _ _ _ _ _ _ _ _ _ _ _ _ _ _ _ _ _ _ _ _ _ _ _ _ _ _ _ _ _ _ _ _ _ _ _ _ _ _ _ _ _ _ _ _ _ _ _ _ _ _ _ _ _ _ _ _ _ _ _ _ _ _ _ _ _ _ _ _ _ _ _ _ _ _ _ _ _ _ _ _ _ _ _ _ _ _ _ _ _ _ _ _ _ _ _ _ _ _ _ _ _ _ _ _ _ _ _ _ _ _ _ _ _ _ _ _ _ _ _
  clear HG0 HB0 HF0 HW0 HWAR
  intro x2 x3 x7 x8 x9 x10 x13 x14 x15 x16 x17 x18 x19 x20 x21 x22 x23 x24 x25 x26 x27 x28 x29 x30 x31 x32 x33 x34 x35 x36 x37 x38 x39 x40 x41 x42 x43 x44 x45 x46 x47 x48 x49 x50 x51 x52 x53 x54 x55 x56 x57 x58 x59 x60 x61 x62 x63 x64 x65 x66 x67 x68 x69 x70 x71 x72 x73 x74 x75 x76 x77 x78 x79 x80 x81 x82 x83 x84 x85 x86 x87 x88 x89 x90 x91 x92 x93 x94 x95 x96 x97 x98 x99 x100 x101 x102 x103 x104 x105 x106 x107 x108 x109 x110 x111 x112 x113 x114 x115 x116 x117 x118 x119 x120 x121 x122 x123 x124 x125 x126 x127 x128 x129 x130 x131 x132 x133 x134 x135 x136 x137 x138 x139 x140 x141 x142 x143 x144 x145 x146 x147 x148 x149 x150 x151 x152 x153 x154 x155 x156 x157 x158 x159 x160 x161 x162 x163 x164 x165 x166 x167 x168 x169 x170 x171 x172 x173 x174 x175 x176 x177 x178 x179 x180 x181 x182 x183 x184 x185 x186 x187 x188 x189 x190 x191 x192 x193 x194 x195 x196 x197 x198 x199 x200 x201 x202 x203 x204 x205 x206 x207 x208 x209 x210 x211 x212 x213 x214 x215 x216 x217 x218 x219 x220 x221 x222 x223 x224 x225 x226 x227 x228 x229 x230 x231 x232 x233 x234 x235 x236 x237 x238 x239 x240 x241 x242 x243 x244 x245 x246 x247 x248 x249 av F wx hwar hany hg hbm hbf hbw
  have HG := Lib.hid hg
  have HBM := Lib.hid hbm
  have HBF := Lib.hid hbf
  have HBW := Lib.hid hbw
  have HCE := Lib.hid (fun who (h : who < 16) => circ_eq HG.out.len HG.out.rng hwar h)
  have HWE := Lib.hid (waits_eq HG.out.rng HAT.out hany)
  have HFL : Hid (F.length = 256) := hwar.len
  have HRNG := Lib.hid HG.out.rng
  clear hwar hany hg hbm hbf hbw
  go_wp2_with fail
  refine who_loop _ _ g mb fb A2 n2 c2 us av ws L F w _ hN2 HA2 HN2 HG HBM HBF HBW HLL HFL HASC HAT HRNG HCE (Lib.hid ?_) _ _ _ _ _ _ _ _ _ _ _ _ _ _ _ _ _ _ _ _ _ _ _ _ _ _ _ _ _ _ _ _ _ _ _ _ _ _ _ _ _ _ _ _ _ _ _ _ _ _ _ _ _ _ _ _ _ _ _ _ _ _ _ _ _ _ _ _ _ _ _ _ _ _ _ _ _ _ _ _ _ _ _ _ _ _ _ _ _ _ _ _ _ _ _ _ _ _ _ _ _ _ _ _ _ _ _ _ _ _ _ _ _ _ _ _ _ _ _ _ _ _ _ _ _ _ _ _ _ _ _ _ _ _ _ _ _ _ _ _ _ _ _ _ _ _ _ _ _ _ _ _ _ _ _ _ _ _ _ _ _ _ _ _ _ _ _ _ _ _ _ _ _ _ _ _ _ _ _ _ _ _ _ _ _ _ _ _ _ _ _ _ _ _ _ _ _ _ _ _ _ _ _ _ _ _ _ _ _ _ _ _ _ _ _ _ _ _ _ _ _ _ _ _ _ _ _ _ _ _ _ _ _ _ _ _ _ _ _ _ _ _ _
  clear HG HBM HBF HBW
  intro x0 x1 x2 x3 x4 x6 x7 x8 x9 x10 x11 x13 x14 x15 x16 x17 x18 x19 x20 x21 x22 x23 x24 x25 x26 x27 x28 x29 x30 x31 x32 x33 x34 x35 x36 x37 x38 x39 x40 x41 x42 x43 x44 x45 x46 x47 x48 x49 x50 x51 x52 x53 x54 x55 x56 x57 x58 x59 x60 x61 x62 x63 x64 x65 x66 x67 x68 x69 x70 x71 x72 x73 x74 x75 x76 x77 x78 x79 x80 x81 x82 x83 x84 x85 x86 x87 x88 x89 x90 x91 x92 x93 x94 x95 x96 x97 x98 x99 x100 x101 x102 x103 x104 x105 x106 x107 x108 x109 x110 x111 x112 x113 x114 x115 x116 x117 x118 x119 x120 x121 x122 x123 x124 x125 x126 x127 x128 x129 x130 x131 x132 x133 x134 x135 x136 x137 x138 x139 x140 x141 x142 x143 x144 x145 x146 x147 x148 x149 x150 x151 x152 x153 x154 x155 x156 x157 x158 x159 x160 x161 x162 x163 x164 x165 x166 x167 x168 x169 x170 x171 x172 x173 x174 x175 x176 x177 x178 x179 x180 x181 x182 x183 x184 x185 x186 x187 x188 x189 x190 x191 x192 x193 x194 x195 x196 x197 x198 x199 x200 x201 x202 x203 x204 x205 x206 x207 x208 x209 x210 x211 x212 x213 x214 x215 x216 x217 x218 x219 x220 x221 x222 x223 x224 x225 x226 x227 x228 x229 x230 x231 x232 x233 x234 x235 x236 x237 x238 x239 x240 x241 x242 x243 x244 x245 x246 x247 x248 x249 wy hg hbw
  have HWI := Lib.hid (waits_in g ws wy hg)
  rw [HWE.out] at HWI
  have HBW := Lib.hid hbw
  clear hg hbw
  go_wp2_with (go_at_call 12; refine HWI.out.mono ?_; rintro e w7 ⟨rfl, rfl⟩)
  go_ret
  exact ⟨by simp, HBW.out⟩
end Go.Proofs.Ytmnakommidgmnaa
