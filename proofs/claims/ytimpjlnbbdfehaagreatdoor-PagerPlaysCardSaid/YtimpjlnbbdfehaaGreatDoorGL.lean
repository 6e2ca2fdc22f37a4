import Derived.Test.YtimpjlnbbdfehaaGreatDoorGK
import Derived.Deep.CutBlock
namespace Go.Proofs.YtimpjlnbbdfehaaGreatDoor
open Go.RowKit Go.Shelf Go.Lib Go.Sort
set_option linter.unusedVariables false
attribute [local go_sem ↓] shr_32_1 shl_32_1 shr_32_2 shl_32_2 shr_32_3 shl_32_3 shr_32_4 shl_32_4 shr_32_5 shl_32_5 shr_32_6 shl_32_6 shr_32_7 shl_32_7 shr_32_8 shl_32_8 shr_32_9 shl_32_9 shr_32_10 shl_32_10 shr_32_11 shl_32_11 shr_32_12 shl_32_12 shr_32_13 shl_32_13 shr_32_14 shl_32_14 shr_32_15 shl_32_15 shr_32_16 shl_32_16 shr_32_17 shl_32_17 shr_32_18 shl_32_18 shr_32_19 shl_32_19 shr_32_20 shl_32_20 shr_32_21 shl_32_21 shr_32_22 shl_32_22 shr_32_23 shl_32_23 shr_32_24 shl_32_24 shr_32_25 shl_32_25 shr_32_26 shl_32_26 shr_32_27 shl_32_27 shr_32_28 shl_32_28 shr_32_29 shl_32_29 shr_32_30 shl_32_30 shr_32_31 shl_32_31 shr_64_3 shl_64_3 shr_64_7 shl_64_7 shr_64_8 shl_64_8 shr_64_16 shl_64_16 shr_64_24 shl_64_24 shr_64_32 shl_64_32 shr_64_40 shl_64_40 shr_64_48 shl_64_48 shr_64_56 shl_64_56
attribute [local go_sem] add_u32 add_u64 and_u8 or_u8 xor_u8 and_u32 or_u32 xor_u32 and_u64 or_u64 xor_u64 conv_32_8 conv_64_8 conv_64_32 conv_8_32 conv_8_64 conv_32_64

/-! ### PagerPlays: the walk -/
structure ActP where
  what : Int
  n : Int
  s : ByteArray
def ActP.cells (a : ActP) : List Value := [.int .i64 a.what, .int .i64 a.n, .string a.s]
def actsC (l : List ActP) : List Value := l.flatMap ActP.cells
theorem actsC_len (l : List ActP) : (actsC l).length = l.length * 3 := by
  induction l with
  | nil => rfl
  | cons a l ih =>
    show (a.cells ++ actsC l).length = _
    rw [List.length_append, ih, List.length_cons]; simp [ActP.cells]; omega
theorem actsC_get (l : List ActP) (k : Nat) (hk : k < l.length) (j : Nat) (hj : j < 3) : (actsC l)[k * 3 + j]? = l[k].cells[j]? := by
  induction l generalizing k with
  | nil => cases hk
  | cons x r ih =>
    show (x.cells ++ actsC r)[_]? = _
    cases k with
    | zero => rw [List.getElem?_append_left (by simp [ActP.cells]; omega), Nat.zero_mul, Nat.zero_add]; rfl
    | succ k =>
      rw [List.getElem?_append_right (by simp [ActP.cells]; omega)]
      have := ih k (by simpa using hk)
      rw [show (k + 1) * 3 + j - x.cells.length = k * 3 + j by simp [ActP.cells]; omega, this]
      rfl
/-- All is kept, and the pages are the call's own. -/
structure PM (W wr : World) (i : Ids) (st : PS) (own : Nat → Nat) (v : Value) (all : List Pg) : Prop where
  sys : SysC wr i st own
  kp : Keeps W wr (fun _ => 0) own
  mid : Mid wr W.heap.size 73 5 v all.length (pgs all)
  z : ∀ g, v.ownBlock = some g → own g = 0
theorem PM.call {W w1 w2 : World} {i : Ids} {st st2 : PS} {own own2 : Nat → Nat} {v : Value} {all : List Pg} (h : PM W w1 i st own v all) (h2 : SysC w2 i st2 own2) (k : Keeps w1 w2 own own2) : PM W w2 i st2 own2 v all :=
  ⟨h2, h.kp.trans k, h.mid.keeps k h.z, h.mid.z k h.z⟩
/-- Blocks of the call's own are turned. -/
theorem PM.turn {W w1 w2 : World} {i : Ids} {st : PS} {own : Nat → Nat} {v v2 : Value} {all l2 : List Pg} (hW : 0 < W.heap.size) (h : PM W w1 i st own v all) {S : List Nat} (ho : Only w1 w2 S) (hS : ∀ x ∈ S, own x = 0 ∧ W.heap.size ≤ x)
    (hm : Mid w2 W.heap.size 73 5 v2 l2.length (pgs l2)) (hv : ∀ g, v2.ownBlock = some g → own g = 0 ∨ w1.heap.size ≤ g) : PM W w2 i st (mark w1 own 0) v2 l2 := by
  obtain ⟨a, b⟩ := h.sys.off h.kp ho (fun x hx => ⟨(hS x hx).1, by have := (hS x hx).2; omega, (hS x hx).2⟩)
  refine ⟨a, b, hm, fun g hg => ?_⟩
  by_cases hl : g < w1.heap.size
  · rw [mark_old hl]
    exact (hv g hg).resolve_right (by omega)
  · exact mark_new (by omega)
structure PR (W wr : World) (i : Ids) (n c m : Nat) (st : PS) (own : Nat → Nat) (all : List Pg) (v : Value) : Prop extends PM W wr i st own v all where
  ok : st.okN c
  inv : PlayI n all st
  most : st.most = m
theorem most_of (mo : Int) : ((mostN (mo % 8) : Nat) : Int) = max (mo % 8) 1 := by rw [mostN_int]; omega
theorem PR.start {W w : World} {i : Ids} {own : Nat → Nat} (n : Nat) (m : Int) (hn : 2 ≤ n) (hn2 : n ≤ 18) (h : SysC w i (PS.new n m) own) (k : Keeps W w (fun _ => 0) own) :
    PR W (w.alloc (.cells #[] 73)) i n 0 (mostN m) (PS.new n m) (mark w own 0) [] (.slice (some ⟨w.heap.size, 0, none⟩) 0 0) := by
  obtain ⟨h2, k2⟩ := h.box0 (.cells #[] 73)
  refine ⟨⟨h2, k.trans k2, empty_mid w 73 5 k.size, fun g hg => ?_⟩, PS.new_okN n m (by omega), ?_, rfl⟩
  · simp [Value.ownBlock] at hg
    subst hg
    exact mark_new (Nat.le_refl _)
  · have hc : cntB (List.replicate n false) = 0 := by
      induction n with
      | zero => rfl
      | succ n ih => 
        clear hn hn2 h k h2 k2 ih
        generalize n + 1 = m
        induction m with
        | zero => rfl
        | succ m ih => simp [List.replicate_succ, cntB, ih]
    refine ⟨⟨by simp [PS.new, DS.new], by simp [PS.new], rfl, rfl, List.nodup_nil, (fun x hx => by cases hx), fun k hk => ?_, (fun x hx => by cases hx), (fun x hx => by cases hx), fun k => ?_, (fun p hp => by cases hp), List.nodup_nil, fun k => ?_, List.nodup_nil, ?_⟩, ⟨(fun r s hr => by cases hr), (fun r s hr => by cases hr), List.nodup_nil, Nat.zero_le _⟩⟩
    · constructor
      · intro hg
        have : (List.replicate n false).getD k false = true := hg
        rw [List.getD_eq_getElem?_getD] at this
        by_cases hkn : k < n
        · rw [List.getElem?_eq_getElem (by simpa using hkn), List.getElem_replicate] at this
          cases this
        · rw [List.getElem?_eq_none (by simpa using hkn)] at this
          cases this
      · rintro ⟨x, hx, _⟩
        cases hx
    · constructor
      · intro hm; cases hm
      · rintro ⟨x, hx, _⟩
        cases hx
    · constructor
      · intro hm; cases hm
      · rintro ⟨x, hx, _⟩
        cases hx
    · show (0 : Int) = ((cntB (List.replicate n false) : Nat) : Int)
      rw [hc]
      rfl
theorem PR.len {W wr : World} {i : Ids} {n c m : Nat} {st : PS} {own : Nat → Nat} {all : List Pg} {v : Value} (h : PR W wr i n c m st own all v) (hn : 2 ≤ n) : all.length ≤ n - 2 := by
  rcases h.inv.1.full hn with ⟨_, h1⟩ | ⟨_, h1⟩ <;> omega
theorem PM.box {W w : World} {i : Ids} {st : PS} {own : Nat → Nat} {v : Value} {all : List Pg} (h : PM W w i st own v all) (t : TypeId) (y cs : Array Value) :
    ∃ own', PM W ((w.alloc (.cells y t)).setRow w.heap.size cs) i st own' v all ∧ Blk ((w.alloc (.cells y t)).setRow w.heap.size cs) w.heap.size t cs ∧ own' w.heap.size = 0 ∧ Keeps w ((w.alloc (.cells y t)).setRow w.heap.size cs) own own' := by
  obtain ⟨own', a, b, c, d⟩ := one_box h.sys t y cs
  exact ⟨own', h.call a b, c, d, b⟩
/-- Which page an act speaks of. -/
theorem at_of (x : Int) (hx : I64 x) (L : Nat) (hL : 0 < L) (hL2 : L ≤ 100) : ∃ t : Int, ∃ j : Nat, x.tmod (L : Int) = t ∧ IntKind.i64.wrap t = t ∧ wrap64 t = t ∧ IntKind.i64.wrap (t + (L : Int)) = t + (L : Int) ∧ wrap64 (t + (L : Int)) = t + (L : Int) ∧ (t + (L : Int)).tmod (L : Int) = (j : Int) ∧ j < L := by
  have h1 := Int.tmod_lt_of_pos x (show (0 : Int) < (L : Int) by omega)
  have h2 : -(L : Int) < x.tmod (L : Int) := by
    have := Int.lt_tmod_of_pos x (show (0 : Int) < (L : Int) by omega)
    exact this
  obtain ⟨h3, h4⟩ := hx
  have h5 : 0 ≤ x.tmod (L : Int) + (L : Int) := by omega
  have h6 : (x.tmod (L : Int) + (L : Int)).tmod (L : Int) = (x.tmod (L : Int) + (L : Int)) % (L : Int) := Int.tmod_eq_emod_of_nonneg h5
  have h7 := Int.emod_nonneg (x.tmod (L : Int) + (L : Int)) (show (L : Int) ≠ 0 by omega)
  have h8 := Int.emod_lt_of_pos (x.tmod (L : Int) + (L : Int)) (show (0 : Int) < (L : Int) by omega)
  have wi : ∀ n : Int, -1000 ≤ n → n ≤ 1000 → IntKind.i64.wrap n = n ∧ wrap64 n = n := fun n a b => ⟨wrap_in n (by omega) (by omega), by unfold wrap64; omega⟩
  refine ⟨x.tmod (L : Int), ((x.tmod (L : Int) + (L : Int)) % (L : Int)).toNat, rfl, (wi _ (by omega) (by omega)).1, (wi _ (by omega) (by omega)).2, (wi _ (by omega) (by omega)).1, (wi _ (by omega) (by omega)).2, ?_, by omega⟩
  rw [h6]
  omega

end Go.Proofs.YtimpjlnbbdfehaaGreatDoor
namespace Go.Proofs.YtimpjlnbbdfehaaGreatDoor
open Go.RowKit Go.Shelf Go.Lib Go.Sort
set_option linter.unusedVariables false
attribute [local go_sem ↓] shr_32_1 shl_32_1 shr_32_2 shl_32_2 shr_32_3 shl_32_3 shr_32_4 shl_32_4 shr_32_5 shl_32_5 shr_32_6 shl_32_6 shr_32_7 shl_32_7 shr_32_8 shl_32_8 shr_32_9 shl_32_9 shr_32_10 shl_32_10 shr_32_11 shl_32_11 shr_32_12 shl_32_12 shr_32_13 shl_32_13 shr_32_14 shl_32_14 shr_32_15 shl_32_15 shr_32_16 shl_32_16 shr_32_17 shl_32_17 shr_32_18 shl_32_18 shr_32_19 shl_32_19 shr_32_20 shl_32_20 shr_32_21 shl_32_21 shr_32_22 shl_32_22 shr_32_23 shl_32_23 shr_32_24 shl_32_24 shr_32_25 shl_32_25 shr_32_26 shl_32_26 shr_32_27 shl_32_27 shr_32_28 shl_32_28 shr_32_29 shl_32_29 shr_32_30 shl_32_30 shr_32_31 shl_32_31 shr_64_3 shl_64_3 shr_64_7 shl_64_7 shr_64_8 shl_64_8 shr_64_16 shl_64_16 shr_64_24 shl_64_24 shr_64_32 shl_64_32 shr_64_40 shl_64_40 shr_64_48 shl_64_48 shr_64_56 shl_64_56
attribute [local go_sem] add_u32 add_u64 and_u8 or_u8 xor_u8 and_u32 or_u32 xor_u32 and_u64 or_u64 xor_u64 conv_32_8 conv_64_8 conv_64_32 conv_8_32 conv_8_64 conv_32_64

/-! ### The switch of PagerPlays, arm by arm -/
/-- The blocks of a number in a piece of code. -/
def blocksOf (n : Nat) : Code → List Code
  | .block m c => if m = n then [.block m c] else blocksOf n c
  | .seq a b => blocksOf n a ++ blocksOf n b
  | .loop c => blocksOf n c
  | .scope c => blocksOf n c
  | .cond _ a b => blocksOf n a ++ blocksOf n b
  | _ => []
noncomputable def sw7 : Code := ((Tryz.f7.body.map (blocksOf 2)).getD []).getD 0 .skip
theorem PR.next {W w w2 : World} {i : Ids} {n c m : Nat} {st : PS} {own own2 : Nat → Nat} {all : List Pg} {v : Value} (h : PR W w i n c m st own all v) {st2 : PS} (h2 : SysC w2 i st2 own2) (k : Keeps w w2 own own2) (ok : st2.okN (c + 4)) (inv : PlayI n all st2) (ms : st2.most = m) : PR W w2 i n (c + 4) m st2 own2 all v :=
  ⟨h.toPM.call h2 k, ok, inv, ms⟩
theorem PR.same {W w : World} {i : Ids} {n c m : Nat} {st : PS} {own : Nat → Nat} {all : List Pg} {v : Value} (h : PR W w i n c m st own all v) : PR W w i n (c + 4) m st own all v :=
  ⟨h.toPM, h.ok.mono (by omega), h.inv, h.most⟩
set_option maxHeartbeats 16000000 in
set_option maxRecDepth 100000 in
theorem arm_epoch (K : Act → World → Prop) (Q0 : Exit → Act → World → Prop) (wh : Int) (W w : World) (i : Ids) (N c M : Nat) (st : PS) (own : Nat → Nat) (all : List Pg) (A12 : Option Addr) (c12 gb : Nat) (t an : Int) (sa : ByteArray) (aw : Int) (x0 x1 x2 x3 x4 x5 x6 x9 x10 x11 x13 x16 x17 x18 x19 x20 x21 x22 x23 x24 x25 x26 x27 x28 x29 x30 x31 x32 x33 x34 x35 x36 x37 x38 x39 x40 x41 x42 x43 x44 x45 x46 x47 x48 x49 x50 x51 x52 x53 x54 x55 x56 x57 x58 x59 x60 x61 x62 x63 x64 x65 x66 x67 x68 x69 x70 x71 x72 x74 x75 x76 x77 x78 x79 x80 x81 x82 x83 x84 x85 x86 x87 x88 x89 x90 x91 x92 x93 x94 x95 x96 x97 x98 x99 x100 x101 x102 x103 x104 x105 x106 x107 x108 x109 x110 x111 x112 x113 x114 x115 x116 x117 x118 x119 x120 x121 x122 x123 x124 x125 x126 x127 x128 x129 x130 x131 x132 x133 x134 x135 x136 x137 x138 x139 x140 x141 x142 x143 x144 x145 x146 x147 x148 x149 x150 x151 x152 x153 x154 x155 x156 x157 x158 x159 x160 x161 x162 x163 x164 x165 x166 x167 x168 x169 x170 x171 x172 x173 x174 x175 x176 x177 x178 x179 x180 x181 x182 x183 x184 x185 x186 x187 x188 x189 x190 x191 x192 x193 x194 x195 x196 x197 x198 x199 x200 x201 x202 x203 x204 x205 x206 x207 x208 x209 x210 x211 x212 x213 x214 x215 x216 x217 x218 x219 x220 x221 x222 x223 x224 x225 x226 x227 x228 x229 x230 x231 x232 x233 x234 x235 x236 x237 x238 x239 x240 x241 x242 x243 x244 x245 x246 x247 x248 x249 x250 x251 x252 x253 x254 x255 x256 x257 x258 : Value)
    (HR : Hid (PR W w i N c M st own all (.slice A12 all.length c12))) (HB : Hid (Blk w gb 71 #[.int .i64 aw, .int .i64 an, .string sa])) (HZ : Hid (own gb = 0)) (HT : Hid ((all = [] ∧ t = -1) ∨ ∃ j : Nat, j < all.length ∧ t = (j : Int))) (HN : Hid (3 ≤ N ∧ N ≤ 18)) (HC : Hid (c ≤ 200)) (HMP : Hid (1 ≤ M)) (HSL : Hid (sa.size ≤ maxLen)) (HWH : wh = 7) 
    (HEXIT : Hid (∀ (y6 y16 y17 y18 y19 y20 y21 y22 y23 y24 y74 y75 y76 y77 y78 y79 y80 y81 y82 y83 y84 y85 y86 y87 y88 y89 y90 y91 y92 y93 y94 y95 y96 y97 y98 y99 y100 y101 y102 y103 y104 y105 y106 y107 y108 y109 y110 y111 y112 y113 y114 y115 y116 y117 y118 y119 y120 y121 y122 y123 y124 y125 y126 y127 y128 y129 y130 y131 y132 y133 y134 y135 y136 y137 y138 y139 y140 y141 y142 y143 y144 y145 y146 y147 y148 y149 y150 y151 y152 y153 y154 y155 y156 y157 y158 y159 y160 y161 y162 y163 y164 y165 y166 y167 y168 y169 y170 y171 y172 y173 y174 y175 y176 y177 y178 y179 y180 y181 y182 y183 y184 y185 y186 y187 y188 y189 y190 y191 y192 y193 y194 y195 y196 y197 y198 y199 y200 y201 y202 y203 y204 y205 y206 y207 y208 y209 y210 y211 y212 y213 y214 y215 y216 y217 y218 y219 y220 y221 y222 y223 y224 y225 y226 y227 y228 y229 y230 y231 y232 y233 y234 y235 y236 y237 y238 y239 v : Value) (st2 : PS) (own2 : Nat → Nat) (all2 : List Pg) (w2 : World), PR W w2 i N (c + 4) M st2 own2 all2 v → K ⟨(x0 :: x1 :: x2 :: x3 :: x4 :: x5 :: y6 :: .int .i64 (N : Int) :: .pointer (some ⟨i.p, 0, none⟩) :: x9 :: x10 :: x11 :: v :: x13 :: .pointer (some ⟨gb, 0, none⟩) :: .int .i64 t :: y16 :: y17 :: y18 :: y19 :: y20 :: y21 :: y22 :: y23 :: y24 :: x25 :: x26 :: x27 :: x28 :: x29 :: x30 :: x31 :: x32 :: x33 :: x34 :: x35 :: x36 :: x37 :: x38 :: x39 :: x40 :: x41 :: x42 :: x43 :: x44 :: x45 :: x46 :: x47 :: x48 :: x49 :: x50 :: x51 :: x52 :: x53 :: x54 :: x55 :: x56 :: x57 :: x58 :: x59 :: x60 :: x61 :: x62 :: x63 :: x64 :: x65 :: x66 :: x67 :: x68 :: x69 :: x70 :: x71 :: x72 :: .int .i64 wh :: y74 :: y75 :: y76 :: y77 :: y78 :: y79 :: y80 :: y81 :: y82 :: y83 :: y84 :: y85 :: y86 :: y87 :: y88 :: y89 :: y90 :: y91 :: y92 :: y93 :: y94 :: y95 :: y96 :: y97 :: y98 :: y99 :: y100 :: y101 :: y102 :: y103 :: y104 :: y105 :: y106 :: y107 :: y108 :: y109 :: y110 :: y111 :: y112 :: y113 :: y114 :: y115 :: y116 :: y117 :: y118 :: y119 :: y120 :: y121 :: y122 :: y123 :: y124 :: y125 :: y126 :: y127 :: y128 :: y129 :: y130 :: y131 :: y132 :: y133 :: y134 :: y135 :: y136 :: y137 :: y138 :: y139 :: y140 :: y141 :: y142 :: y143 :: y144 :: y145 :: y146 :: y147 :: y148 :: y149 :: y150 :: y151 :: y152 :: y153 :: y154 :: y155 :: y156 :: y157 :: y158 :: y159 :: y160 :: y161 :: y162 :: y163 :: y164 :: y165 :: y166 :: y167 :: y168 :: y169 :: y170 :: y171 :: y172 :: y173 :: y174 :: y175 :: y176 :: y177 :: y178 :: y179 :: y180 :: y181 :: y182 :: y183 :: y184 :: y185 :: y186 :: y187 :: y188 :: y189 :: y190 :: y191 :: y192 :: y193 :: y194 :: y195 :: y196 :: y197 :: y198 :: y199 :: y200 :: y201 :: y202 :: y203 :: y204 :: y205 :: y206 :: y207 :: y208 :: y209 :: y210 :: y211 :: y212 :: y213 :: y214 :: y215 :: y216 :: y217 :: y218 :: y219 :: y220 :: y221 :: y222 :: y223 :: y224 :: y225 :: y226 :: y227 :: y228 :: y229 :: y230 :: y231 :: y232 :: y233 :: y234 :: y235 :: y236 :: y237 :: y238 :: y239 :: x240 :: x241 :: x242 :: x243 :: x244 :: x245 :: x246 :: x247 :: x248 :: x249 :: x250 :: x251 :: x252 :: x253 :: x254 :: x255 :: x256 :: x257 :: x258 :: []).toArray, []⟩ w2)) :
    Code.wp Tryz.prog sw7 (Exit.then K Q0) ⟨(x0 :: x1 :: x2 :: x3 :: x4 :: x5 :: x6 :: .int .i64 (N : Int) :: .pointer (some ⟨i.p, 0, none⟩) :: x9 :: x10 :: x11 :: .slice A12 all.length c12 :: x13 :: .pointer (some ⟨gb, 0, none⟩) :: .int .i64 t :: x16 :: x17 :: x18 :: x19 :: x20 :: x21 :: x22 :: x23 :: x24 :: x25 :: x26 :: x27 :: x28 :: x29 :: x30 :: x31 :: x32 :: x33 :: x34 :: x35 :: x36 :: x37 :: x38 :: x39 :: x40 :: x41 :: x42 :: x43 :: x44 :: x45 :: x46 :: x47 :: x48 :: x49 :: x50 :: x51 :: x52 :: x53 :: x54 :: x55 :: x56 :: x57 :: x58 :: x59 :: x60 :: x61 :: x62 :: x63 :: x64 :: x65 :: x66 :: x67 :: x68 :: x69 :: x70 :: x71 :: x72 :: .int .i64 wh :: x74 :: x75 :: x76 :: x77 :: x78 :: x79 :: x80 :: x81 :: x82 :: x83 :: x84 :: x85 :: x86 :: x87 :: x88 :: x89 :: x90 :: x91 :: x92 :: x93 :: x94 :: x95 :: x96 :: x97 :: x98 :: x99 :: x100 :: x101 :: x102 :: x103 :: x104 :: x105 :: x106 :: x107 :: x108 :: x109 :: x110 :: x111 :: x112 :: x113 :: x114 :: x115 :: x116 :: x117 :: x118 :: x119 :: x120 :: x121 :: x122 :: x123 :: x124 :: x125 :: x126 :: x127 :: x128 :: x129 :: x130 :: x131 :: x132 :: x133 :: x134 :: x135 :: x136 :: x137 :: x138 :: x139 :: x140 :: x141 :: x142 :: x143 :: x144 :: x145 :: x146 :: x147 :: x148 :: x149 :: x150 :: x151 :: x152 :: x153 :: x154 :: x155 :: x156 :: x157 :: x158 :: x159 :: x160 :: x161 :: x162 :: x163 :: x164 :: x165 :: x166 :: x167 :: x168 :: x169 :: x170 :: x171 :: x172 :: x173 :: x174 :: x175 :: x176 :: x177 :: x178 :: x179 :: x180 :: x181 :: x182 :: x183 :: x184 :: x185 :: x186 :: x187 :: x188 :: x189 :: x190 :: x191 :: x192 :: x193 :: x194 :: x195 :: x196 :: x197 :: x198 :: x199 :: x200 :: x201 :: x202 :: x203 :: x204 :: x205 :: x206 :: x207 :: x208 :: x209 :: x210 :: x211 :: x212 :: x213 :: x214 :: x215 :: x216 :: x217 :: x218 :: x219 :: x220 :: x221 :: x222 :: x223 :: x224 :: x225 :: x226 :: x227 :: x228 :: x229 :: x230 :: x231 :: x232 :: x233 :: x234 :: x235 :: x236 :: x237 :: x238 :: x239 :: x240 :: x241 :: x242 :: x243 :: x244 :: x245 :: x246 :: x247 :: x248 :: x249 :: x250 :: x251 :: x252 :: x253 :: x254 :: x255 :: x256 :: x257 :: x258 :: []).toArray, []⟩ w := by
  conv => arg 2; whnf
  subst HWH
  obtain ⟨e8, he8⟩ := word_of (x := an % 4) (by omega) (by omega)
  have hcv : IntKind.u32.wrap (an % 4) = n32 e8 := by
    rw [← he8]
    simp [IntKind.wrap, IntKind.bits, IntKind.signed]
    omega
  have HE := Lib.hid (epoch_ok HR.out.sys e8)
  have b1 := HB.out.cell 1
  have ha3 := and3
  go_wp2_with fail
  refine HE.out.mono ?_
  rintro e w3 ⟨rfl, own3, h3, k3⟩
  have R3 := Lib.hid (HR.out.next h3 k3 (PS.epoch_okN HR.out.ok e8 |>.mono (by omega)) HR.out.inv HR.out.most)
  clear h3 k3 HE
  go_wp2_with fail
  apply HEXIT.out
  exact R3.out

end Go.Proofs.YtimpjlnbbdfehaaGreatDoor
namespace Go.Proofs.YtimpjlnbbdfehaaGreatDoor
open Go.RowKit Go.Shelf Go.Lib Go.Sort
set_option linter.unusedVariables false
attribute [local go_sem ↓] shr_32_1 shl_32_1 shr_32_2 shl_32_2 shr_32_3 shl_32_3 shr_32_4 shl_32_4 shr_32_5 shl_32_5 shr_32_6 shl_32_6 shr_32_7 shl_32_7 shr_32_8 shl_32_8 shr_32_9 shl_32_9 shr_32_10 shl_32_10 shr_32_11 shl_32_11 shr_32_12 shl_32_12 shr_32_13 shl_32_13 shr_32_14 shl_32_14 shr_32_15 shl_32_15 shr_32_16 shl_32_16 shr_32_17 shl_32_17 shr_32_18 shl_32_18 shr_32_19 shl_32_19 shr_32_20 shl_32_20 shr_32_21 shl_32_21 shr_32_22 shl_32_22 shr_32_23 shl_32_23 shr_32_24 shl_32_24 shr_32_25 shl_32_25 shr_32_26 shl_32_26 shr_32_27 shl_32_27 shr_32_28 shl_32_28 shr_32_29 shl_32_29 shr_32_30 shl_32_30 shr_32_31 shl_32_31 shr_64_3 shl_64_3 shr_64_7 shl_64_7 shr_64_8 shl_64_8 shr_64_16 shl_64_16 shr_64_24 shl_64_24 shr_64_32 shl_64_32 shr_64_40 shl_64_40 shr_64_48 shl_64_48 shr_64_56 shl_64_56
attribute [local go_sem] add_u32 add_u64 and_u8 or_u8 xor_u8 and_u32 or_u32 xor_u32 and_u64 or_u64 xor_u64 conv_32_8 conv_64_8 conv_64_32 conv_8_32 conv_8_64 conv_32_64

set_option maxHeartbeats 16000000 in
set_option maxRecDepth 100000 in
theorem arm_read (K : Act → World → Prop) (Q0 : Exit → Act → World → Prop) (wh : Int) (W w : World) (i : Ids) (N c M : Nat) (st : PS) (own : Nat → Nat) (all : List Pg) (A12 : Option Addr) (c12 gb : Nat) (t an : Int) (sa : ByteArray) (aw : Int) (x0 x1 x2 x3 x4 x5 x6 x9 x10 x11 x13 x16 x17 x18 x19 x20 x21 x22 x23 x24 x25 x26 x27 x28 x29 x30 x31 x32 x33 x34 x35 x36 x37 x38 x39 x40 x41 x42 x43 x44 x45 x46 x47 x48 x49 x50 x51 x52 x53 x54 x55 x56 x57 x58 x59 x60 x61 x62 x63 x64 x65 x66 x67 x68 x69 x70 x71 x72 x74 x75 x76 x77 x78 x79 x80 x81 x82 x83 x84 x85 x86 x87 x88 x89 x90 x91 x92 x93 x94 x95 x96 x97 x98 x99 x100 x101 x102 x103 x104 x105 x106 x107 x108 x109 x110 x111 x112 x113 x114 x115 x116 x117 x118 x119 x120 x121 x122 x123 x124 x125 x126 x127 x128 x129 x130 x131 x132 x133 x134 x135 x136 x137 x138 x139 x140 x141 x142 x143 x144 x145 x146 x147 x148 x149 x150 x151 x152 x153 x154 x155 x156 x157 x158 x159 x160 x161 x162 x163 x164 x165 x166 x167 x168 x169 x170 x171 x172 x173 x174 x175 x176 x177 x178 x179 x180 x181 x182 x183 x184 x185 x186 x187 x188 x189 x190 x191 x192 x193 x194 x195 x196 x197 x198 x199 x200 x201 x202 x203 x204 x205 x206 x207 x208 x209 x210 x211 x212 x213 x214 x215 x216 x217 x218 x219 x220 x221 x222 x223 x224 x225 x226 x227 x228 x229 x230 x231 x232 x233 x234 x235 x236 x237 x238 x239 x240 x241 x242 x243 x244 x245 x246 x247 x248 x249 x250 x251 x252 x253 x254 x255 x256 x257 x258 : Value)
    (HR : Hid (PR W w i N c M st own all (.slice A12 all.length c12))) (HB : Hid (Blk w gb 71 #[.int .i64 aw, .int .i64 an, .string sa])) (HZ : Hid (own gb = 0)) (HT : Hid ((all = [] ∧ t = -1) ∨ ∃ j : Nat, j < all.length ∧ t = (j : Int))) (HN : Hid (3 ≤ N ∧ N ≤ 18)) (HC : Hid (c ≤ 200)) (HMP : Hid (1 ≤ M)) (HSL : Hid (sa.size ≤ maxLen)) (HWH : wh = 3) 
    (HEXIT : Hid (∀ (y6 y16 y17 y18 y19 y20 y21 y22 y23 y24 y74 y75 y76 y77 y78 y79 y80 y81 y82 y83 y84 y85 y86 y87 y88 y89 y90 y91 y92 y93 y94 y95 y96 y97 y98 y99 y100 y101 y102 y103 y104 y105 y106 y107 y108 y109 y110 y111 y112 y113 y114 y115 y116 y117 y118 y119 y120 y121 y122 y123 y124 y125 y126 y127 y128 y129 y130 y131 y132 y133 y134 y135 y136 y137 y138 y139 y140 y141 y142 y143 y144 y145 y146 y147 y148 y149 y150 y151 y152 y153 y154 y155 y156 y157 y158 y159 y160 y161 y162 y163 y164 y165 y166 y167 y168 y169 y170 y171 y172 y173 y174 y175 y176 y177 y178 y179 y180 y181 y182 y183 y184 y185 y186 y187 y188 y189 y190 y191 y192 y193 y194 y195 y196 y197 y198 y199 y200 y201 y202 y203 y204 y205 y206 y207 y208 y209 y210 y211 y212 y213 y214 y215 y216 y217 y218 y219 y220 y221 y222 y223 y224 y225 y226 y227 y228 y229 y230 y231 y232 y233 y234 y235 y236 y237 y238 y239 v : Value) (st2 : PS) (own2 : Nat → Nat) (all2 : List Pg) (w2 : World), PR W w2 i N (c + 4) M st2 own2 all2 v → K ⟨(x0 :: x1 :: x2 :: x3 :: x4 :: x5 :: y6 :: .int .i64 (N : Int) :: .pointer (some ⟨i.p, 0, none⟩) :: x9 :: x10 :: x11 :: v :: x13 :: .pointer (some ⟨gb, 0, none⟩) :: .int .i64 t :: y16 :: y17 :: y18 :: y19 :: y20 :: y21 :: y22 :: y23 :: y24 :: x25 :: x26 :: x27 :: x28 :: x29 :: x30 :: x31 :: x32 :: x33 :: x34 :: x35 :: x36 :: x37 :: x38 :: x39 :: x40 :: x41 :: x42 :: x43 :: x44 :: x45 :: x46 :: x47 :: x48 :: x49 :: x50 :: x51 :: x52 :: x53 :: x54 :: x55 :: x56 :: x57 :: x58 :: x59 :: x60 :: x61 :: x62 :: x63 :: x64 :: x65 :: x66 :: x67 :: x68 :: x69 :: x70 :: x71 :: x72 :: .int .i64 wh :: y74 :: y75 :: y76 :: y77 :: y78 :: y79 :: y80 :: y81 :: y82 :: y83 :: y84 :: y85 :: y86 :: y87 :: y88 :: y89 :: y90 :: y91 :: y92 :: y93 :: y94 :: y95 :: y96 :: y97 :: y98 :: y99 :: y100 :: y101 :: y102 :: y103 :: y104 :: y105 :: y106 :: y107 :: y108 :: y109 :: y110 :: y111 :: y112 :: y113 :: y114 :: y115 :: y116 :: y117 :: y118 :: y119 :: y120 :: y121 :: y122 :: y123 :: y124 :: y125 :: y126 :: y127 :: y128 :: y129 :: y130 :: y131 :: y132 :: y133 :: y134 :: y135 :: y136 :: y137 :: y138 :: y139 :: y140 :: y141 :: y142 :: y143 :: y144 :: y145 :: y146 :: y147 :: y148 :: y149 :: y150 :: y151 :: y152 :: y153 :: y154 :: y155 :: y156 :: y157 :: y158 :: y159 :: y160 :: y161 :: y162 :: y163 :: y164 :: y165 :: y166 :: y167 :: y168 :: y169 :: y170 :: y171 :: y172 :: y173 :: y174 :: y175 :: y176 :: y177 :: y178 :: y179 :: y180 :: y181 :: y182 :: y183 :: y184 :: y185 :: y186 :: y187 :: y188 :: y189 :: y190 :: y191 :: y192 :: y193 :: y194 :: y195 :: y196 :: y197 :: y198 :: y199 :: y200 :: y201 :: y202 :: y203 :: y204 :: y205 :: y206 :: y207 :: y208 :: y209 :: y210 :: y211 :: y212 :: y213 :: y214 :: y215 :: y216 :: y217 :: y218 :: y219 :: y220 :: y221 :: y222 :: y223 :: y224 :: y225 :: y226 :: y227 :: y228 :: y229 :: y230 :: y231 :: y232 :: y233 :: y234 :: y235 :: y236 :: y237 :: y238 :: y239 :: x240 :: x241 :: x242 :: x243 :: x244 :: x245 :: x246 :: x247 :: x248 :: x249 :: x250 :: x251 :: x252 :: x253 :: x254 :: x255 :: x256 :: x257 :: x258 :: []).toArray, []⟩ w2)) :
    Code.wp Tryz.prog sw7 (Exit.then K Q0) ⟨(x0 :: x1 :: x2 :: x3 :: x4 :: x5 :: x6 :: .int .i64 (N : Int) :: .pointer (some ⟨i.p, 0, none⟩) :: x9 :: x10 :: x11 :: .slice A12 all.length c12 :: x13 :: .pointer (some ⟨gb, 0, none⟩) :: .int .i64 t :: x16 :: x17 :: x18 :: x19 :: x20 :: x21 :: x22 :: x23 :: x24 :: x25 :: x26 :: x27 :: x28 :: x29 :: x30 :: x31 :: x32 :: x33 :: x34 :: x35 :: x36 :: x37 :: x38 :: x39 :: x40 :: x41 :: x42 :: x43 :: x44 :: x45 :: x46 :: x47 :: x48 :: x49 :: x50 :: x51 :: x52 :: x53 :: x54 :: x55 :: x56 :: x57 :: x58 :: x59 :: x60 :: x61 :: x62 :: x63 :: x64 :: x65 :: x66 :: x67 :: x68 :: x69 :: x70 :: x71 :: x72 :: .int .i64 wh :: x74 :: x75 :: x76 :: x77 :: x78 :: x79 :: x80 :: x81 :: x82 :: x83 :: x84 :: x85 :: x86 :: x87 :: x88 :: x89 :: x90 :: x91 :: x92 :: x93 :: x94 :: x95 :: x96 :: x97 :: x98 :: x99 :: x100 :: x101 :: x102 :: x103 :: x104 :: x105 :: x106 :: x107 :: x108 :: x109 :: x110 :: x111 :: x112 :: x113 :: x114 :: x115 :: x116 :: x117 :: x118 :: x119 :: x120 :: x121 :: x122 :: x123 :: x124 :: x125 :: x126 :: x127 :: x128 :: x129 :: x130 :: x131 :: x132 :: x133 :: x134 :: x135 :: x136 :: x137 :: x138 :: x139 :: x140 :: x141 :: x142 :: x143 :: x144 :: x145 :: x146 :: x147 :: x148 :: x149 :: x150 :: x151 :: x152 :: x153 :: x154 :: x155 :: x156 :: x157 :: x158 :: x159 :: x160 :: x161 :: x162 :: x163 :: x164 :: x165 :: x166 :: x167 :: x168 :: x169 :: x170 :: x171 :: x172 :: x173 :: x174 :: x175 :: x176 :: x177 :: x178 :: x179 :: x180 :: x181 :: x182 :: x183 :: x184 :: x185 :: x186 :: x187 :: x188 :: x189 :: x190 :: x191 :: x192 :: x193 :: x194 :: x195 :: x196 :: x197 :: x198 :: x199 :: x200 :: x201 :: x202 :: x203 :: x204 :: x205 :: x206 :: x207 :: x208 :: x209 :: x210 :: x211 :: x212 :: x213 :: x214 :: x215 :: x216 :: x217 :: x218 :: x219 :: x220 :: x221 :: x222 :: x223 :: x224 :: x225 :: x226 :: x227 :: x228 :: x229 :: x230 :: x231 :: x232 :: x233 :: x234 :: x235 :: x236 :: x237 :: x238 :: x239 :: x240 :: x241 :: x242 :: x243 :: x244 :: x245 :: x246 :: x247 :: x248 :: x249 :: x250 :: x251 :: x252 :: x253 :: x254 :: x255 :: x256 :: x257 :: x258 :: []).toArray, []⟩ w := by
  conv => arg 2; whnf
  subst HWH
  by_cases hall : all = []
  · have ht : t = -1 := by
      rcases HT.out with ⟨_, h⟩ | ⟨j, hj, _⟩
      · exact h
      · rw [hall] at hj; cases hj
    subst ht
    clear hall
    go_wp2_with fail
    apply HEXIT.out
    exact HR.out.same
  · obtain ⟨j, hj, rfl⟩ : ∃ j : Nat, j < all.length ∧ t = (j : Int) := by
      rcases HT.out with ⟨h, _⟩ | h
      · exact absurd h hall
      · exact h
    have hln := HR.out.len (by have := HN.out; omega)
    have hN := HN.out
    have hge : decide ((0 : Int) ≤ (j : Int)) = true := by simp
    have hji : (j : Int) < (all.length : Int) := by omega
    obtain ⟨g7, o7, c7, hv7, hcs⟩ := HR.out.mid.open_ (by omega)
    injection hv7 with hA7 hn7 hc7
    clear hn7 hc7
    subst hA7
    have q0 := hcs (j * 5 + 0) _ (pgs_get all j hj 0 (by decide))
    have q1 := hcs (j * 5 + 1) _ (pgs_get all j hj 1 (by decide))
    have q2 := hcs (j * 5 + 2) _ (pgs_get all j hj 2 (by decide))
    have q4 := hcs (j * 5 + 4) _ (pgs_get all j hj 4 (by decide))
    rw [← Nat.add_assoc] at q0 q1 q2 q4
    rw [Nat.add_zero] at q0
    obtain ⟨x, hx⟩ : ∃ x, x = all[j] := ⟨_, rfl⟩
    rw [← hx] at q0 q1 q2 q4
    have HX : Hid (x ∈ all) := by rw [hx]; exact List.getElem_mem hj
    clear hcs hx
    cases ho : x.old
    · rw [ho] at q4
      have HRO : Hid (RefOk x.r) := ⟨⟨by have := HR.out.inv.1.rng x HX.out; omega, by have := HR.out.inv.1.rng x HX.out; omega⟩, by
        obtain ⟨hd, _, h2⟩ := HR.out.inv.1.txt x HX.out
        rw [h2, sumB_size]
        decide⟩
      have hpr := pread_ok HR.out.sys HR.out.ok (by have := HC.out; omega) x.r HRO.out
      obtain ⟨p1, p2, p3⟩ := HR.out.inv.read (by rw [HR.out.most]; exact HMP.out) HX.out ho
      rw [p1] at hpr
      have HI := Lib.hid p2
      have HMS := Lib.hid (p3.trans HR.out.most)
      have HOK := Lib.hid ((PS.read_okN HR.out.ok x.r HRO.out).mono (m := c + 4) (by omega))
      have HPR := Lib.hid hpr
      clear hpr p1 p2 p3
      generalize (st.read x.r).1 = st2 at *
      obtain ⟨⟨pl, sm⟩, xs, xf, xo⟩ := x
      dsimp only at *
      go_wp2_with fail
      refine HPR.out.mono ?_
      rintro e w3 ⟨rfl, own3, h3, k3⟩
      have R3 := Lib.hid (HR.out.next h3 k3 HOK.out HI.out HMS.out)
      have hq := k3.block g7 (by
        obtain ⟨_, cur, hc⟩ := HR.out.mid.block g7 rfl
        exact hc.lt) (HR.out.z g7 rfl)
      have q2' : w3.cell? ⟨g7, o7 + j * 5 + 2, none⟩ = some (.string xs) := by
        rw [← q2]
        unfold World.cell?
        rw [hq]
      clear h3 k3 hq HPR q0 q1 q2 q4
      have hsx : (xs.toList == xs.toList) = true := by simp
      go_wp2_with fail
      apply HEXIT.out
      exact R3.out
    · rw [ho] at q4
      go_wp2_with fail
      apply HEXIT.out
      exact HR.out.same

end Go.Proofs.YtimpjlnbbdfehaaGreatDoor
namespace Go.Proofs.YtimpjlnbbdfehaaGreatDoor
open Go.RowKit Go.Shelf Go.Lib Go.Sort
set_option linter.unusedVariables false
attribute [local go_sem ↓] shr_32_1 shl_32_1 shr_32_2 shl_32_2 shr_32_3 shl_32_3 shr_32_4 shl_32_4 shr_32_5 shl_32_5 shr_32_6 shl_32_6 shr_32_7 shl_32_7 shr_32_8 shl_32_8 shr_32_9 shl_32_9 shr_32_10 shl_32_10 shr_32_11 shl_32_11 shr_32_12 shl_32_12 shr_32_13 shl_32_13 shr_32_14 shl_32_14 shr_32_15 shl_32_15 shr_32_16 shl_32_16 shr_32_17 shl_32_17 shr_32_18 shl_32_18 shr_32_19 shl_32_19 shr_32_20 shl_32_20 shr_32_21 shl_32_21 shr_32_22 shl_32_22 shr_32_23 shl_32_23 shr_32_24 shl_32_24 shr_32_25 shl_32_25 shr_32_26 shl_32_26 shr_32_27 shl_32_27 shr_32_28 shl_32_28 shr_32_29 shl_32_29 shr_32_30 shl_32_30 shr_32_31 shl_32_31 shr_64_3 shl_64_3 shr_64_7 shl_64_7 shr_64_8 shl_64_8 shr_64_16 shl_64_16 shr_64_24 shl_64_24 shr_64_32 shl_64_32 shr_64_40 shl_64_40 shr_64_48 shl_64_48 shr_64_56 shl_64_56
attribute [local go_sem] add_u32 add_u64 and_u8 or_u8 xor_u8 and_u32 or_u32 xor_u32 and_u64 or_u64 xor_u64 conv_32_8 conv_64_8 conv_64_32 conv_8_32 conv_8_64 conv_32_64

theorem only_grownNew {a b c : World} {row : Option Nat} (h : Only a b []) (hg : b.grownBy c row) (hr : ∀ g, row = some g → a.heap.size ≤ g) : Only a c [] :=
  ⟨hg.os.trans h.os, hg.tape.trans h.tape, hg.output.trans h.output, Nat.le_trans h.size hg.size, fun k hk hn => (hg.block k (Nat.lt_of_lt_of_le hk h.size) (fun e => by have := hr k e.symm; omega)).trans (h.block k hk hn)⟩
set_option maxHeartbeats 16000000 in
set_option maxRecDepth 100000 in
theorem arm_drop (K : Act → World → Prop) (Q0 : Exit → Act → World → Prop) (wh : Int) (W w : World) (i : Ids) (N c M : Nat) (st : PS) (own : Nat → Nat) (all : List Pg) (A12 : Option Addr) (c12 gb : Nat) (t an : Int) (sa : ByteArray) (aw : Int) (x0 x1 x2 x3 x4 x5 x6 x9 x10 x11 x13 x16 x17 x18 x19 x20 x21 x22 x23 x24 x25 x26 x27 x28 x29 x30 x31 x32 x33 x34 x35 x36 x37 x38 x39 x40 x41 x42 x43 x44 x45 x46 x47 x48 x49 x50 x51 x52 x53 x54 x55 x56 x57 x58 x59 x60 x61 x62 x63 x64 x65 x66 x67 x68 x69 x70 x71 x72 x74 x75 x76 x77 x78 x79 x80 x81 x82 x83 x84 x85 x86 x87 x88 x89 x90 x91 x92 x93 x94 x95 x96 x97 x98 x99 x100 x101 x102 x103 x104 x105 x106 x107 x108 x109 x110 x111 x112 x113 x114 x115 x116 x117 x118 x119 x120 x121 x122 x123 x124 x125 x126 x127 x128 x129 x130 x131 x132 x133 x134 x135 x136 x137 x138 x139 x140 x141 x142 x143 x144 x145 x146 x147 x148 x149 x150 x151 x152 x153 x154 x155 x156 x157 x158 x159 x160 x161 x162 x163 x164 x165 x166 x167 x168 x169 x170 x171 x172 x173 x174 x175 x176 x177 x178 x179 x180 x181 x182 x183 x184 x185 x186 x187 x188 x189 x190 x191 x192 x193 x194 x195 x196 x197 x198 x199 x200 x201 x202 x203 x204 x205 x206 x207 x208 x209 x210 x211 x212 x213 x214 x215 x216 x217 x218 x219 x220 x221 x222 x223 x224 x225 x226 x227 x228 x229 x230 x231 x232 x233 x234 x235 x236 x237 x238 x239 x240 x241 x242 x243 x244 x245 x246 x247 x248 x249 x250 x251 x252 x253 x254 x255 x256 x257 x258 : Value)
    (HR : Hid (PR W w i N c M st own all (.slice A12 all.length c12))) (HB : Hid (Blk w gb 71 #[.int .i64 aw, .int .i64 an, .string sa])) (HZ : Hid (own gb = 0)) (HT : Hid ((all = [] ∧ t = -1) ∨ ∃ j : Nat, j < all.length ∧ t = (j : Int))) (HN : Hid (3 ≤ N ∧ N ≤ 18)) (HC : Hid (c ≤ 200)) (HMP : Hid (1 ≤ M)) (HSL : Hid (sa.size ≤ maxLen)) (HWH : wh = 4) (HW0 : Hid (0 < W.heap.size)) 
    (HEXIT : Hid (∀ (y6 y16 y17 y18 y19 y20 y21 y22 y23 y24 y74 y75 y76 y77 y78 y79 y80 y81 y82 y83 y84 y85 y86 y87 y88 y89 y90 y91 y92 y93 y94 y95 y96 y97 y98 y99 y100 y101 y102 y103 y104 y105 y106 y107 y108 y109 y110 y111 y112 y113 y114 y115 y116 y117 y118 y119 y120 y121 y122 y123 y124 y125 y126 y127 y128 y129 y130 y131 y132 y133 y134 y135 y136 y137 y138 y139 y140 y141 y142 y143 y144 y145 y146 y147 y148 y149 y150 y151 y152 y153 y154 y155 y156 y157 y158 y159 y160 y161 y162 y163 y164 y165 y166 y167 y168 y169 y170 y171 y172 y173 y174 y175 y176 y177 y178 y179 y180 y181 y182 y183 y184 y185 y186 y187 y188 y189 y190 y191 y192 y193 y194 y195 y196 y197 y198 y199 y200 y201 y202 y203 y204 y205 y206 y207 y208 y209 y210 y211 y212 y213 y214 y215 y216 y217 y218 y219 y220 y221 y222 y223 y224 y225 y226 y227 y228 y229 y230 y231 y232 y233 y234 y235 y236 y237 y238 y239 v : Value) (st2 : PS) (own2 : Nat → Nat) (all2 : List Pg) (w2 : World), PR W w2 i N (c + 4) M st2 own2 all2 v → K ⟨(x0 :: x1 :: x2 :: x3 :: x4 :: x5 :: y6 :: .int .i64 (N : Int) :: .pointer (some ⟨i.p, 0, none⟩) :: x9 :: x10 :: x11 :: v :: x13 :: .pointer (some ⟨gb, 0, none⟩) :: .int .i64 t :: y16 :: y17 :: y18 :: y19 :: y20 :: y21 :: y22 :: y23 :: y24 :: x25 :: x26 :: x27 :: x28 :: x29 :: x30 :: x31 :: x32 :: x33 :: x34 :: x35 :: x36 :: x37 :: x38 :: x39 :: x40 :: x41 :: x42 :: x43 :: x44 :: x45 :: x46 :: x47 :: x48 :: x49 :: x50 :: x51 :: x52 :: x53 :: x54 :: x55 :: x56 :: x57 :: x58 :: x59 :: x60 :: x61 :: x62 :: x63 :: x64 :: x65 :: x66 :: x67 :: x68 :: x69 :: x70 :: x71 :: x72 :: .int .i64 wh :: y74 :: y75 :: y76 :: y77 :: y78 :: y79 :: y80 :: y81 :: y82 :: y83 :: y84 :: y85 :: y86 :: y87 :: y88 :: y89 :: y90 :: y91 :: y92 :: y93 :: y94 :: y95 :: y96 :: y97 :: y98 :: y99 :: y100 :: y101 :: y102 :: y103 :: y104 :: y105 :: y106 :: y107 :: y108 :: y109 :: y110 :: y111 :: y112 :: y113 :: y114 :: y115 :: y116 :: y117 :: y118 :: y119 :: y120 :: y121 :: y122 :: y123 :: y124 :: y125 :: y126 :: y127 :: y128 :: y129 :: y130 :: y131 :: y132 :: y133 :: y134 :: y135 :: y136 :: y137 :: y138 :: y139 :: y140 :: y141 :: y142 :: y143 :: y144 :: y145 :: y146 :: y147 :: y148 :: y149 :: y150 :: y151 :: y152 :: y153 :: y154 :: y155 :: y156 :: y157 :: y158 :: y159 :: y160 :: y161 :: y162 :: y163 :: y164 :: y165 :: y166 :: y167 :: y168 :: y169 :: y170 :: y171 :: y172 :: y173 :: y174 :: y175 :: y176 :: y177 :: y178 :: y179 :: y180 :: y181 :: y182 :: y183 :: y184 :: y185 :: y186 :: y187 :: y188 :: y189 :: y190 :: y191 :: y192 :: y193 :: y194 :: y195 :: y196 :: y197 :: y198 :: y199 :: y200 :: y201 :: y202 :: y203 :: y204 :: y205 :: y206 :: y207 :: y208 :: y209 :: y210 :: y211 :: y212 :: y213 :: y214 :: y215 :: y216 :: y217 :: y218 :: y219 :: y220 :: y221 :: y222 :: y223 :: y224 :: y225 :: y226 :: y227 :: y228 :: y229 :: y230 :: y231 :: y232 :: y233 :: y234 :: y235 :: y236 :: y237 :: y238 :: y239 :: x240 :: x241 :: x242 :: x243 :: x244 :: x245 :: x246 :: x247 :: x248 :: x249 :: x250 :: x251 :: x252 :: x253 :: x254 :: x255 :: x256 :: x257 :: x258 :: []).toArray, []⟩ w2)) :
    Code.wp Tryz.prog sw7 (Exit.then K Q0) ⟨(x0 :: x1 :: x2 :: x3 :: x4 :: x5 :: x6 :: .int .i64 (N : Int) :: .pointer (some ⟨i.p, 0, none⟩) :: x9 :: x10 :: x11 :: .slice A12 all.length c12 :: x13 :: .pointer (some ⟨gb, 0, none⟩) :: .int .i64 t :: x16 :: x17 :: x18 :: x19 :: x20 :: x21 :: x22 :: x23 :: x24 :: x25 :: x26 :: x27 :: x28 :: x29 :: x30 :: x31 :: x32 :: x33 :: x34 :: x35 :: x36 :: x37 :: x38 :: x39 :: x40 :: x41 :: x42 :: x43 :: x44 :: x45 :: x46 :: x47 :: x48 :: x49 :: x50 :: x51 :: x52 :: x53 :: x54 :: x55 :: x56 :: x57 :: x58 :: x59 :: x60 :: x61 :: x62 :: x63 :: x64 :: x65 :: x66 :: x67 :: x68 :: x69 :: x70 :: x71 :: x72 :: .int .i64 wh :: x74 :: x75 :: x76 :: x77 :: x78 :: x79 :: x80 :: x81 :: x82 :: x83 :: x84 :: x85 :: x86 :: x87 :: x88 :: x89 :: x90 :: x91 :: x92 :: x93 :: x94 :: x95 :: x96 :: x97 :: x98 :: x99 :: x100 :: x101 :: x102 :: x103 :: x104 :: x105 :: x106 :: x107 :: x108 :: x109 :: x110 :: x111 :: x112 :: x113 :: x114 :: x115 :: x116 :: x117 :: x118 :: x119 :: x120 :: x121 :: x122 :: x123 :: x124 :: x125 :: x126 :: x127 :: x128 :: x129 :: x130 :: x131 :: x132 :: x133 :: x134 :: x135 :: x136 :: x137 :: x138 :: x139 :: x140 :: x141 :: x142 :: x143 :: x144 :: x145 :: x146 :: x147 :: x148 :: x149 :: x150 :: x151 :: x152 :: x153 :: x154 :: x155 :: x156 :: x157 :: x158 :: x159 :: x160 :: x161 :: x162 :: x163 :: x164 :: x165 :: x166 :: x167 :: x168 :: x169 :: x170 :: x171 :: x172 :: x173 :: x174 :: x175 :: x176 :: x177 :: x178 :: x179 :: x180 :: x181 :: x182 :: x183 :: x184 :: x185 :: x186 :: x187 :: x188 :: x189 :: x190 :: x191 :: x192 :: x193 :: x194 :: x195 :: x196 :: x197 :: x198 :: x199 :: x200 :: x201 :: x202 :: x203 :: x204 :: x205 :: x206 :: x207 :: x208 :: x209 :: x210 :: x211 :: x212 :: x213 :: x214 :: x215 :: x216 :: x217 :: x218 :: x219 :: x220 :: x221 :: x222 :: x223 :: x224 :: x225 :: x226 :: x227 :: x228 :: x229 :: x230 :: x231 :: x232 :: x233 :: x234 :: x235 :: x236 :: x237 :: x238 :: x239 :: x240 :: x241 :: x242 :: x243 :: x244 :: x245 :: x246 :: x247 :: x248 :: x249 :: x250 :: x251 :: x252 :: x253 :: x254 :: x255 :: x256 :: x257 :: x258 :: []).toArray, []⟩ w := by
  conv => arg 2; whnf
  subst HWH
  by_cases hall : all = []
  · have ht : t = -1 := by
      rcases HT.out with ⟨_, h⟩ | ⟨j, hj, _⟩
      · exact h
      · rw [hall] at hj; cases hj
    subst ht
    clear hall
    go_wp2_with fail
    apply HEXIT.out
    exact HR.out.same
  · obtain ⟨j, hj, rfl⟩ : ∃ j : Nat, j < all.length ∧ t = (j : Int) := by
      rcases HT.out with ⟨h, _⟩ | h
      · exact absurd h hall
      · exact h
    have hln := HR.out.len (by have := HN.out; omega)
    have hN := HN.out
    have hge : decide ((0 : Int) ≤ (j : Int)) = true := by simp
    have hji : (j : Int) < (all.length : Int) := by omega
    obtain ⟨g7, o7, c7, hv7, hcs⟩ := HR.out.mid.open_ (by omega)
    injection hv7 with hA7 hn7 hc7
    clear hn7 hc7
    subst hA7
    have q0 := hcs (j * 5 + 0) _ (pgs_get all j hj 0 (by decide))
    have q1 := hcs (j * 5 + 1) _ (pgs_get all j hj 1 (by decide))
    have q3 := hcs (j * 5 + 3) _ (pgs_get all j hj 3 (by decide))
    have q4 := hcs (j * 5 + 4) _ (pgs_get all j hj 4 (by decide))
    rw [← Nat.add_assoc] at q0 q1 q3 q4
    rw [Nat.add_zero] at q0
    obtain ⟨x, hx⟩ : ∃ x, x = all[j] := ⟨_, rfl⟩
    have HGE : Hid (all[j]? = some x) := by rw [hx]; exact List.getElem?_eq_getElem hj
    rw [← hx] at q0 q1 q3 q4
    have HX : Hid (x ∈ all) := by rw [hx]; exact List.getElem_mem hj
    clear hcs hx
    cases ho : x.old
    · rw [ho] at q4
      have HRO : Hid (RefOk x.r) := ⟨⟨by have := HR.out.inv.1.rng x HX.out; omega, by have := HR.out.inv.1.rng x HX.out; omega⟩, by
        obtain ⟨hd, _, h2⟩ := HR.out.inv.1.txt x HX.out
        rw [h2, sumB_size]
        decide⟩
      have HDR := Lib.hid (drop_ok HR.out.sys HR.out.ok (by have := HC.out; omega) x.r HRO.out)
      have HOK := Lib.hid ((PS.dropP_okN HR.out.ok HR.out.inv.1.cnt x.r).mono (m := c + 4) (by omega))
      have HFR := Lib.hid (fun (hf : x.fresh = true) => HR.out.inv.drop_fresh HGE.out ho hf)
      have HOL := Lib.hid (fun (hf : x.fresh = false) => HR.out.inv.drop_old HGE.out ho hf)
      have HPO := Lib.hid (fun (hf : x.fresh = false) => pgs_old all j x HGE.out hf)
      generalize st.drop x.r = st2 at *
      obtain ⟨⟨pl, sm⟩, xs, xf, xo⟩ := x
      dsimp only at *
      have hbk : ∃ cur, Blk w g7 73 cur := by
        obtain ⟨_, cur, hc⟩ := HR.out.mid.block g7 rfl
        exact ⟨cur, hc⟩
      obtain ⟨cur, hbk⟩ := hbk
      have HBK := Lib.hid hbk
      clear hbk
      go_wp2_with fail
      refine HDR.out.mono ?_
      rintro e w3 ⟨rfl, own3, h3, k3⟩
      have M3 := Lib.hid (HR.out.toPM.call h3 k3)
      have hq := k3.block g7 HBK.out.lt (HR.out.z g7 rfl)
      have HB3 : Hid (Blk w3 g7 73 cur) := k3.blk HBK.out (HR.out.z g7 rfl)
      have HZ3 : Hid (own3 g7 = 0) := M3.out.z g7 rfl
      have HGG : Hid (W.heap.size ≤ g7) := (HR.out.mid.block g7 rfl).1
      have HMS : Hid (st.most = M) := HR.out.most
      have HMW : Hid (W.heap.size ≤ w3.heap.size) := M3.out.kp.size
      have q3' : w3.cell? ⟨g7, o7 + j * 5 + 3, none⟩ = some (.bool xf) := by
        rw [← q3]
        unfold World.cell?
        rw [hq]
      have q4' : w3.cell? ⟨g7, o7 + j * 5 + 4, none⟩ = some (.bool false) := by
        rw [← q4]
        unfold World.cell?
        rw [hq]
      have f4' := HB3.out.frozen (o7 + j * 5 + 4)
      clear h3 k3 hq HDR q0 q1 q3 q4 HBK
      cases xf
      · obtain ⟨p1, p2, _⟩ := HOL.out rfl
        have HI := Lib.hid p1
        have HM2 := Lib.hid (p2.trans HMS.out)
        have hm := M3.out.mid.setC (j := j * 5 + 4) (by omega) (.bool true)
        rw [HPO.out rfl, ← Nat.add_assoc] at hm
        have HM3 := Lib.hid hm
        clear p1 p2 hm HFR HOL HPO
        go_wp2_with fail
        apply HEXIT.out
        exact ⟨M3.out.turn (S := [g7]) HW0.out ((Only.refl w3 _).setCell (List.mem_singleton.2 rfl) _) (fun y hy => by rw [List.mem_singleton] at hy; rw [hy]; exact ⟨HZ3.out, HGG.out⟩) (by rw [List.length_set]; exact HM3.out) (fun g hg => by
          simp [Value.ownBlock] at hg
          rw [← hg]
          exact .inl HZ3.out), HOK.out, HI.out, HM2.out⟩
      · obtain ⟨p1, p2, _⟩ := HFR.out rfl
        have HI := Lib.hid p1
        have HM2 := Lib.hid (p2.trans HMS.out)
        obtain ⟨A1, c1, hsl1, hrow1⟩ := M3.out.mid.take_ Tryz.underlying69 info73 (k := j) (by omega) (j : Int) rfl
        obtain ⟨A2, c2, hsl2, hrow2⟩ := M3.out.mid.drop_ Tryz.underlying69 info73 (k := j + 1) (by omega) ((j : Int) + 1) (by simp)
        have HR1 := Lib.hid hrow1
        have HR2 := Lib.hid hrow2
        obtain ⟨i0, hi0, hz0, hz1, hz2⟩ := info_parts info73f
        have hjw : IntKind.i64.wrap ((j : Int) + 1) = (j : Int) + 1 := wrap_in _ (by omega) (by omega)
        have hjw' : wrap64 ((j : Int) + 1) = (j : Int) + 1 := w64_small _ (by omega) (by omega)
        have HPE : Hid ((all.eraseIdx j).length = all.length - 1) := by show _ = _; rw [List.length_eraseIdx_of_lt hj]
        clear p1 p2 hrow1 hrow2 HFR HOL HPO q4' f4'
        go_wp2_with fail
        clear q3'
        refine wp_region_plan (fun _ => True) 10 [(true, 1), (true, 2), (true, 3), (true, 5), (true, 6), (true, 7), (true, 8), (false, 0), (false, 4), (false, 9)] (by kernel_rfl) (by kernel_rfl) trivial ?_
        simp only [List.map_cons, List.map_nil, List.getD_cons_zero, List.getD_cons_succ, List.drop_succ_cons, List.drop_zero]
        (refine plan_take (v := ?_) rfl ?_ ?_; rotate_left; (intro wS hSw; (try dsimp only at hSw); go_simp; try with_reducible rfl); simp only [Act.put, List.setIfInBounds_toArray, List.set_cons_zero, List.set_cons_succ])
        (refine plan_take (v := ?_) rfl ?_ ?_; rotate_left; (intro wS hSw; (try dsimp only at hSw); go_simp; try with_reducible rfl); simp only [Act.put, List.setIfInBounds_toArray, List.set_cons_zero, List.set_cons_succ])
        (refine plan_take (v := ?_) rfl ?_ ?_; rotate_left; (intro wS hSw; (try dsimp only at hSw); go_simp; try with_reducible rfl); simp only [Act.put, List.setIfInBounds_toArray, List.set_cons_zero, List.set_cons_succ])
        (refine plan_take (v := ?_) rfl ?_ ?_; rotate_left; (intro wS hSw; (try dsimp only at hSw); go_simp; try with_reducible rfl); simp only [Act.put, List.setIfInBounds_toArray, List.set_cons_zero, List.set_cons_succ])
        (refine plan_take (v := ?_) rfl ?_ ?_; rotate_left; (intro wS hSw; (try dsimp only at hSw); go_simp; try with_reducible rfl); simp only [Act.put, List.setIfInBounds_toArray, List.set_cons_zero, List.set_cons_succ])
        (refine plan_take (v := ?_) rfl ?_ ?_; rotate_left; (intro wS hSw; (try dsimp only at hSw); go_simp; try with_reducible rfl); simp only [Act.put, List.setIfInBounds_toArray, List.set_cons_zero, List.set_cons_succ])
        (refine plan_take (v := ?_) rfl ?_ ?_; rotate_left; (intro wS hSw; (try dsimp only at hSw); go_simp; try with_reducible rfl); simp only [Act.put, List.setIfInBounds_toArray, List.set_cons_zero, List.set_cons_succ])
        refine plan_run rfl (fun K hK => ?_)
        go_simp
        refine hK.out _ _ trivial ?_
        clear hK K
        try simp only [Act.put, List.setIfInBounds_toArray, List.set_cons_zero, List.set_cons_succ]
        refine plan_run rfl (fun K hK => ?_)
        refine wp_append_mid _ (.tmp 173) (.tmp 176) 69 rfl W.heap.size 73 i0 (.agg #[.int .i64 0, .string ⟨#[]⟩, .string ⟨#[]⟩, .bool false, .bool false]) 5 48 Tryz.underlying69 hi0 hz0 hz1 hz2 rfl (by decide) _ _ _ rfl (empty_mid w3.drew 73 5 HMW.out) A1 j c1 ((pgs all).take (j * 5)) rfl (by rw [List.length_take, pgs_len]; omega) (HR1.out _ (M3.out.mid.drew.alloc _)) (fun u hu => pgs_one all u (List.mem_of_mem_take hu)) (by simp only [maxLen]; omega) (by omega) (by have := HMW.out; simp; omega) ?_
        intro v5 w5 hm5 hg5 ho5
        have ho5' : ∀ g, v5.ownBlock = some g → w3.heap.size ≤ g := fun g hg => by
          rcases ho5 with e | e
          · rw [e] at hg
            have hg' : some w3.heap.size = some g := hg
            injection hg' with hg'
            omega
          · rw [e] at hg
            injection hg with hg
            rw [← hg]
            show w3.heap.size ≤ (w3.alloc (.cells #[] 73)).heap.size
            simp
        have hO5 : Only w3 w5 [] := only_grownNew ((((Only.refl w3 _).drew).alloc _)) hg5 (fun g hg => by
          have hg' : some w3.heap.size = some g := hg
          injection hg' with hg'
          omega)
        have hM5 : Mid w5 W.heap.size 73 5 (.slice (some ⟨g7, o7, none⟩) all.length c12) all.length (pgs all) := M3.out.mid.only hO5 (fun _ _ hm => by cases hm)
        refine hK.out _ _ trivial ?_
        clear hK K
        try simp only [Act.put, List.setIfInBounds_toArray, List.set_cons_zero, List.set_cons_succ]
        refine plan_run rfl (fun K hK => ?_)
        refine wp_append_mid _ (.tmp 177) (.tmp 181) 69 rfl W.heap.size 73 i0 (.agg #[.int .i64 0, .string ⟨#[]⟩, .string ⟨#[]⟩, .bool false, .bool false]) 5 48 Tryz.underlying69 hi0 hz0 hz1 hz2 rfl (by decide) _ _ _ rfl hm5 A2 (all.length - (j + 1)) c2 ((pgs all).drop ((j + 1) * 5)) rfl (by rw [List.length_drop, pgs_len]; omega) (HR2.out _ hM5) (fun u hu => pgs_one all u (List.mem_of_mem_drop hu)) (by simp only [maxLen]; omega) (by omega) (Nat.le_trans HMW.out hO5.size) ?_
        intro v6 w6 hm6 hg6 ho6
        have hO6 : Only w3 w6 [] := only_grownNew hO5 hg6 ho5'
        have ho6' : ∀ g, v6.ownBlock = some g → w3.heap.size ≤ g := fun g hg => by
          rcases ho6 with e | e
          · rw [e] at hg; exact ho5' g hg
          · rw [e] at hg; injection hg with hg; rw [← hg]; exact hO5.size
        have hl6 : 0 + j + (all.length - (j + 1)) = (all.eraseIdx j).length := by rw [HPE.out]; omega
        rw [List.nil_append, pgs_erase, hl6] at hm6
        have P6 := Lib.hid (M3.out.turn HW0.out hO6 (fun _ hm => by cases hm) hm6 (fun g hg => .inr (ho6' g hg)))
        refine hK.out _ _ trivial ?_
        clear hK K hm5 hg5 ho5 ho5' hO5 hM5 hm6 hg6 ho6 hO6 ho6' hl6 hsl1 hsl2
        try simp only [Act.put, List.setIfInBounds_toArray, List.set_cons_zero, List.set_cons_succ]
        refine plan_nil ?_
        go_wp2_with fail
        refine NoPanic.normal ?_
        go_wp2_with fail
        apply HEXIT.out
        exact ⟨P6.out, HOK.out, HI.out, HM2.out⟩
    · rw [ho] at q4
      go_wp2_with fail
      apply HEXIT.out
      exact HR.out.same

end Go.Proofs.YtimpjlnbbdfehaaGreatDoor
namespace Go.Proofs.YtimpjlnbbdfehaaGreatDoor
open Go.RowKit Go.Shelf Go.Lib Go.Sort
set_option linter.unusedVariables false
attribute [local go_sem ↓] shr_32_1 shl_32_1 shr_32_2 shl_32_2 shr_32_3 shl_32_3 shr_32_4 shl_32_4 shr_32_5 shl_32_5 shr_32_6 shl_32_6 shr_32_7 shl_32_7 shr_32_8 shl_32_8 shr_32_9 shl_32_9 shr_32_10 shl_32_10 shr_32_11 shl_32_11 shr_32_12 shl_32_12 shr_32_13 shl_32_13 shr_32_14 shl_32_14 shr_32_15 shl_32_15 shr_32_16 shl_32_16 shr_32_17 shl_32_17 shr_32_18 shl_32_18 shr_32_19 shl_32_19 shr_32_20 shl_32_20 shr_32_21 shl_32_21 shr_32_22 shl_32_22 shr_32_23 shl_32_23 shr_32_24 shl_32_24 shr_32_25 shl_32_25 shr_32_26 shl_32_26 shr_32_27 shl_32_27 shr_32_28 shl_32_28 shr_32_29 shl_32_29 shr_32_30 shl_32_30 shr_32_31 shl_32_31 shr_64_3 shl_64_3 shr_64_7 shl_64_7 shr_64_8 shl_64_8 shr_64_16 shl_64_16 shr_64_24 shl_64_24 shr_64_32 shl_64_32 shr_64_40 shl_64_40 shr_64_48 shl_64_48 shr_64_56 shl_64_56
attribute [local go_sem] add_u32 add_u64 and_u8 or_u8 xor_u8 and_u32 or_u32 xor_u32 and_u64 or_u64 xor_u64 conv_32_8 conv_64_8 conv_64_32 conv_8_32 conv_8_64 conv_32_64

set_option maxHeartbeats 16000000 in
set_option maxRecDepth 100000 in
theorem arm_write (K : Act → World → Prop) (Q0 : Exit → Act → World → Prop) (wh : Int) (W w : World) (i : Ids) (N c M : Nat) (st : PS) (own : Nat → Nat) (all : List Pg) (A12 : Option Addr) (c12 gb : Nat) (t an : Int) (sa : ByteArray) (aw : Int) (x0 x1 x2 x3 x4 x5 x6 x9 x10 x11 x13 x16 x17 x18 x19 x20 x21 x22 x23 x24 x25 x26 x27 x28 x29 x30 x31 x32 x33 x34 x35 x36 x37 x38 x39 x40 x41 x42 x43 x44 x45 x46 x47 x48 x49 x50 x51 x52 x53 x54 x55 x56 x57 x58 x59 x60 x61 x62 x63 x64 x65 x66 x67 x68 x69 x70 x71 x72 x74 x75 x76 x77 x78 x79 x80 x81 x82 x83 x84 x85 x86 x87 x88 x89 x90 x91 x92 x93 x94 x95 x96 x97 x98 x99 x100 x101 x102 x103 x104 x105 x106 x107 x108 x109 x110 x111 x112 x113 x114 x115 x116 x117 x118 x119 x120 x121 x122 x123 x124 x125 x126 x127 x128 x129 x130 x131 x132 x133 x134 x135 x136 x137 x138 x139 x140 x141 x142 x143 x144 x145 x146 x147 x148 x149 x150 x151 x152 x153 x154 x155 x156 x157 x158 x159 x160 x161 x162 x163 x164 x165 x166 x167 x168 x169 x170 x171 x172 x173 x174 x175 x176 x177 x178 x179 x180 x181 x182 x183 x184 x185 x186 x187 x188 x189 x190 x191 x192 x193 x194 x195 x196 x197 x198 x199 x200 x201 x202 x203 x204 x205 x206 x207 x208 x209 x210 x211 x212 x213 x214 x215 x216 x217 x218 x219 x220 x221 x222 x223 x224 x225 x226 x227 x228 x229 x230 x231 x232 x233 x234 x235 x236 x237 x238 x239 x240 x241 x242 x243 x244 x245 x246 x247 x248 x249 x250 x251 x252 x253 x254 x255 x256 x257 x258 : Value)
    (HR : Hid (PR W w i N c M st own all (.slice A12 all.length c12))) (HB : Hid (Blk w gb 71 #[.int .i64 aw, .int .i64 an, .string sa])) (HZ : Hid (own gb = 0)) (HT : Hid ((all = [] ∧ t = -1) ∨ ∃ j : Nat, j < all.length ∧ t = (j : Int))) (HN : Hid (3 ≤ N ∧ N ≤ 18)) (HC : Hid (c ≤ 200)) (HMP : Hid (1 ≤ M)) (HSL : Hid (sa.size ≤ maxLen)) (HW0 : Hid (0 < W.heap.size)) (HW : Hid (wh = 0 ∨ wh = 1 ∨ wh = 2)) 
    (HEXIT : Hid (∀ (y6 y16 y17 y18 y19 y20 y21 y22 y23 y24 y74 y75 y76 y77 y78 y79 y80 y81 y82 y83 y84 y85 y86 y87 y88 y89 y90 y91 y92 y93 y94 y95 y96 y97 y98 y99 y100 y101 y102 y103 y104 y105 y106 y107 y108 y109 y110 y111 y112 y113 y114 y115 y116 y117 y118 y119 y120 y121 y122 y123 y124 y125 y126 y127 y128 y129 y130 y131 y132 y133 y134 y135 y136 y137 y138 y139 y140 y141 y142 y143 y144 y145 y146 y147 y148 y149 y150 y151 y152 y153 y154 y155 y156 y157 y158 y159 y160 y161 y162 y163 y164 y165 y166 y167 y168 y169 y170 y171 y172 y173 y174 y175 y176 y177 y178 y179 y180 y181 y182 y183 y184 y185 y186 y187 y188 y189 y190 y191 y192 y193 y194 y195 y196 y197 y198 y199 y200 y201 y202 y203 y204 y205 y206 y207 y208 y209 y210 y211 y212 y213 y214 y215 y216 y217 y218 y219 y220 y221 y222 y223 y224 y225 y226 y227 y228 y229 y230 y231 y232 y233 y234 y235 y236 y237 y238 y239 v : Value) (st2 : PS) (own2 : Nat → Nat) (all2 : List Pg) (w2 : World), PR W w2 i N (c + 4) M st2 own2 all2 v → K ⟨(x0 :: x1 :: x2 :: x3 :: x4 :: x5 :: y6 :: .int .i64 (N : Int) :: .pointer (some ⟨i.p, 0, none⟩) :: x9 :: x10 :: x11 :: v :: x13 :: .pointer (some ⟨gb, 0, none⟩) :: .int .i64 t :: y16 :: y17 :: y18 :: y19 :: y20 :: y21 :: y22 :: y23 :: y24 :: x25 :: x26 :: x27 :: x28 :: x29 :: x30 :: x31 :: x32 :: x33 :: x34 :: x35 :: x36 :: x37 :: x38 :: x39 :: x40 :: x41 :: x42 :: x43 :: x44 :: x45 :: x46 :: x47 :: x48 :: x49 :: x50 :: x51 :: x52 :: x53 :: x54 :: x55 :: x56 :: x57 :: x58 :: x59 :: x60 :: x61 :: x62 :: x63 :: x64 :: x65 :: x66 :: x67 :: x68 :: x69 :: x70 :: x71 :: x72 :: .int .i64 wh :: y74 :: y75 :: y76 :: y77 :: y78 :: y79 :: y80 :: y81 :: y82 :: y83 :: y84 :: y85 :: y86 :: y87 :: y88 :: y89 :: y90 :: y91 :: y92 :: y93 :: y94 :: y95 :: y96 :: y97 :: y98 :: y99 :: y100 :: y101 :: y102 :: y103 :: y104 :: y105 :: y106 :: y107 :: y108 :: y109 :: y110 :: y111 :: y112 :: y113 :: y114 :: y115 :: y116 :: y117 :: y118 :: y119 :: y120 :: y121 :: y122 :: y123 :: y124 :: y125 :: y126 :: y127 :: y128 :: y129 :: y130 :: y131 :: y132 :: y133 :: y134 :: y135 :: y136 :: y137 :: y138 :: y139 :: y140 :: y141 :: y142 :: y143 :: y144 :: y145 :: y146 :: y147 :: y148 :: y149 :: y150 :: y151 :: y152 :: y153 :: y154 :: y155 :: y156 :: y157 :: y158 :: y159 :: y160 :: y161 :: y162 :: y163 :: y164 :: y165 :: y166 :: y167 :: y168 :: y169 :: y170 :: y171 :: y172 :: y173 :: y174 :: y175 :: y176 :: y177 :: y178 :: y179 :: y180 :: y181 :: y182 :: y183 :: y184 :: y185 :: y186 :: y187 :: y188 :: y189 :: y190 :: y191 :: y192 :: y193 :: y194 :: y195 :: y196 :: y197 :: y198 :: y199 :: y200 :: y201 :: y202 :: y203 :: y204 :: y205 :: y206 :: y207 :: y208 :: y209 :: y210 :: y211 :: y212 :: y213 :: y214 :: y215 :: y216 :: y217 :: y218 :: y219 :: y220 :: y221 :: y222 :: y223 :: y224 :: y225 :: y226 :: y227 :: y228 :: y229 :: y230 :: y231 :: y232 :: y233 :: y234 :: y235 :: y236 :: y237 :: y238 :: y239 :: x240 :: x241 :: x242 :: x243 :: x244 :: x245 :: x246 :: x247 :: x248 :: x249 :: x250 :: x251 :: x252 :: x253 :: x254 :: x255 :: x256 :: x257 :: x258 :: []).toArray, []⟩ w2))
    (HCONT : Hid (∀ (y6 y16 y17 y18 y19 y20 y21 y22 y23 y24 y74 y75 y76 y77 y78 y79 y80 y81 y82 y83 y84 y85 y86 y87 y88 y89 y90 y91 y92 y93 y94 y95 y96 y97 y98 y99 y100 y101 y102 y103 y104 y105 y106 y107 y108 y109 y110 y111 y112 y113 y114 y115 y116 y117 y118 y119 y120 y121 y122 y123 y124 y125 y126 y127 y128 y129 y130 y131 y132 y133 y134 y135 y136 y137 y138 y139 y140 y141 y142 y143 y144 y145 y146 y147 y148 y149 y150 y151 y152 y153 y154 y155 y156 y157 y158 y159 y160 y161 y162 y163 y164 y165 y166 y167 y168 y169 y170 y171 y172 y173 y174 y175 y176 y177 y178 y179 y180 y181 y182 y183 y184 y185 y186 y187 y188 y189 y190 y191 y192 y193 y194 y195 y196 y197 y198 y199 y200 y201 y202 y203 y204 y205 y206 y207 y208 y209 y210 y211 y212 y213 y214 y215 y216 y217 y218 y219 y220 y221 y222 y223 y224 y225 y226 y227 y228 y229 y230 y231 y232 y233 y234 y235 y236 y237 y238 y239 : Value) (own2 : Nat → Nat) (w2 : World), PR W w2 i N (c + 4) M st own2 all (.slice A12 all.length c12) → Q0 (.exit 1) ⟨(x0 :: x1 :: x2 :: x3 :: x4 :: x5 :: y6 :: .int .i64 (N : Int) :: .pointer (some ⟨i.p, 0, none⟩) :: x9 :: x10 :: x11 :: .slice A12 all.length c12 :: x13 :: .pointer (some ⟨gb, 0, none⟩) :: .int .i64 t :: y16 :: y17 :: y18 :: y19 :: y20 :: y21 :: y22 :: y23 :: y24 :: x25 :: x26 :: x27 :: x28 :: x29 :: x30 :: x31 :: x32 :: x33 :: x34 :: x35 :: x36 :: x37 :: x38 :: x39 :: x40 :: x41 :: x42 :: x43 :: x44 :: x45 :: x46 :: x47 :: x48 :: x49 :: x50 :: x51 :: x52 :: x53 :: x54 :: x55 :: x56 :: x57 :: x58 :: x59 :: x60 :: x61 :: x62 :: x63 :: x64 :: x65 :: x66 :: x67 :: x68 :: x69 :: x70 :: x71 :: x72 :: .int .i64 wh :: y74 :: y75 :: y76 :: y77 :: y78 :: y79 :: y80 :: y81 :: y82 :: y83 :: y84 :: y85 :: y86 :: y87 :: y88 :: y89 :: y90 :: y91 :: y92 :: y93 :: y94 :: y95 :: y96 :: y97 :: y98 :: y99 :: y100 :: y101 :: y102 :: y103 :: y104 :: y105 :: y106 :: y107 :: y108 :: y109 :: y110 :: y111 :: y112 :: y113 :: y114 :: y115 :: y116 :: y117 :: y118 :: y119 :: y120 :: y121 :: y122 :: y123 :: y124 :: y125 :: y126 :: y127 :: y128 :: y129 :: y130 :: y131 :: y132 :: y133 :: y134 :: y135 :: y136 :: y137 :: y138 :: y139 :: y140 :: y141 :: y142 :: y143 :: y144 :: y145 :: y146 :: y147 :: y148 :: y149 :: y150 :: y151 :: y152 :: y153 :: y154 :: y155 :: y156 :: y157 :: y158 :: y159 :: y160 :: y161 :: y162 :: y163 :: y164 :: y165 :: y166 :: y167 :: y168 :: y169 :: y170 :: y171 :: y172 :: y173 :: y174 :: y175 :: y176 :: y177 :: y178 :: y179 :: y180 :: y181 :: y182 :: y183 :: y184 :: y185 :: y186 :: y187 :: y188 :: y189 :: y190 :: y191 :: y192 :: y193 :: y194 :: y195 :: y196 :: y197 :: y198 :: y199 :: y200 :: y201 :: y202 :: y203 :: y204 :: y205 :: y206 :: y207 :: y208 :: y209 :: y210 :: y211 :: y212 :: y213 :: y214 :: y215 :: y216 :: y217 :: y218 :: y219 :: y220 :: y221 :: y222 :: y223 :: y224 :: y225 :: y226 :: y227 :: y228 :: y229 :: y230 :: y231 :: y232 :: y233 :: y234 :: y235 :: y236 :: y237 :: y238 :: y239 :: x240 :: x241 :: x242 :: x243 :: x244 :: x245 :: x246 :: x247 :: x248 :: x249 :: x250 :: x251 :: x252 :: x253 :: x254 :: x255 :: x256 :: x257 :: x258 :: []).toArray, []⟩ w2)) :
    Code.wp Tryz.prog sw7 (Exit.then K Q0) ⟨(x0 :: x1 :: x2 :: x3 :: x4 :: x5 :: x6 :: .int .i64 (N : Int) :: .pointer (some ⟨i.p, 0, none⟩) :: x9 :: x10 :: x11 :: .slice A12 all.length c12 :: x13 :: .pointer (some ⟨gb, 0, none⟩) :: .int .i64 t :: x16 :: x17 :: x18 :: x19 :: x20 :: x21 :: x22 :: x23 :: x24 :: x25 :: x26 :: x27 :: x28 :: x29 :: x30 :: x31 :: x32 :: x33 :: x34 :: x35 :: x36 :: x37 :: x38 :: x39 :: x40 :: x41 :: x42 :: x43 :: x44 :: x45 :: x46 :: x47 :: x48 :: x49 :: x50 :: x51 :: x52 :: x53 :: x54 :: x55 :: x56 :: x57 :: x58 :: x59 :: x60 :: x61 :: x62 :: x63 :: x64 :: x65 :: x66 :: x67 :: x68 :: x69 :: x70 :: x71 :: x72 :: .int .i64 wh :: x74 :: x75 :: x76 :: x77 :: x78 :: x79 :: x80 :: x81 :: x82 :: x83 :: x84 :: x85 :: x86 :: x87 :: x88 :: x89 :: x90 :: x91 :: x92 :: x93 :: x94 :: x95 :: x96 :: x97 :: x98 :: x99 :: x100 :: x101 :: x102 :: x103 :: x104 :: x105 :: x106 :: x107 :: x108 :: x109 :: x110 :: x111 :: x112 :: x113 :: x114 :: x115 :: x116 :: x117 :: x118 :: x119 :: x120 :: x121 :: x122 :: x123 :: x124 :: x125 :: x126 :: x127 :: x128 :: x129 :: x130 :: x131 :: x132 :: x133 :: x134 :: x135 :: x136 :: x137 :: x138 :: x139 :: x140 :: x141 :: x142 :: x143 :: x144 :: x145 :: x146 :: x147 :: x148 :: x149 :: x150 :: x151 :: x152 :: x153 :: x154 :: x155 :: x156 :: x157 :: x158 :: x159 :: x160 :: x161 :: x162 :: x163 :: x164 :: x165 :: x166 :: x167 :: x168 :: x169 :: x170 :: x171 :: x172 :: x173 :: x174 :: x175 :: x176 :: x177 :: x178 :: x179 :: x180 :: x181 :: x182 :: x183 :: x184 :: x185 :: x186 :: x187 :: x188 :: x189 :: x190 :: x191 :: x192 :: x193 :: x194 :: x195 :: x196 :: x197 :: x198 :: x199 :: x200 :: x201 :: x202 :: x203 :: x204 :: x205 :: x206 :: x207 :: x208 :: x209 :: x210 :: x211 :: x212 :: x213 :: x214 :: x215 :: x216 :: x217 :: x218 :: x219 :: x220 :: x221 :: x222 :: x223 :: x224 :: x225 :: x226 :: x227 :: x228 :: x229 :: x230 :: x231 :: x232 :: x233 :: x234 :: x235 :: x236 :: x237 :: x238 :: x239 :: x240 :: x241 :: x242 :: x243 :: x244 :: x245 :: x246 :: x247 :: x248 :: x249 :: x250 :: x251 :: x252 :: x253 :: x254 :: x255 :: x256 :: x257 :: x258 :: []).toArray, []⟩ w := by
  conv => arg 2; whnf
  have t3 : (wh == 3) = false := by rcases HW.out with h | h | h <;> simp [h]
  have t4 : (wh == 4) = false := by rcases HW.out with h | h | h <;> simp [h]
  have t5 : (wh == 5) = false := by rcases HW.out with h | h | h <;> simp [h]
  have t6 : (wh == 6) = false := by rcases HW.out with h | h | h <;> simp [h]
  have t7 : (wh == 7) = false := by rcases HW.out with h | h | h <;> simp [h]
  have hsl := fun w => slice_to sa ((min sa.size 470 : Nat) : Int) (min sa.size 470) rfl (Nat.min_le_left _ _) w
  have hmin : min (sa.size : Int) 470 = ((min sa.size 470 : Nat) : Int) := by omega
  obtain ⟨T, hT⟩ : ∃ T, T = sa.extract 0 (min sa.size 470) := ⟨_, rfl⟩
  rw [← hT] at hsl
  clear hT
  have b2 := HB.out.cell 2
  have hsl63 := HSL.out
  by_cases hl : 462 < T.size
  · have HWR := Lib.hid (write_long HR.out.sys T hl)
    have hd : decide ((462 : Int) < (T.size : Int)) = true := by simp; omega
    clear hl
    go_wp2_with fail
    refine HWR.out.mono ?_
    rintro e w3 ⟨rfl, own3, h3, k3⟩
    have M3 := Lib.hid (HR.out.toPM.call h3 k3)
    have HA3 : Hid (Blk (w3.alloc (.cells #[.int .i64 0, .string ⟨#[]⟩] 54)) w3.heap.size 54 #[.int .i64 0, .string ⟨#[]⟩]) := Blk.new w3 54 _
    obtain ⟨own4, m4, _, _, _⟩ := M3.out.box 54 #[.int .i64 0, .string ⟨#[]⟩] #[.int .i64 (-1), .string ⟨#[]⟩]
    have P4 := Lib.hid m4
    clear h3 k3 HWR M3 m4 b2 hsl
    go_wp2_with (first
      | (refine wpList_store_row rfl 54 (.tmp 23) (.tmp 85) (by rfl) w3.heap.size #[.int .i64 (-1), .string ⟨#[]⟩] (by rfl) (by rfl) 54 _ HA3.out info54 (by rfl) (by simp [Value.oneCell']) ?_; generalize (w3.alloc (.cells #[.int .i64 0, .string ⟨#[]⟩] 54)).setRow w3.heap.size #[.int .i64 (-1), .string ⟨#[]⟩] = w4 at *)
      | fail)
    apply HCONT.out
    exact ⟨P4.out, HR.out.ok.mono (by omega), HR.out.inv, HR.out.most⟩
  · have hl' : T.size ≤ 462 := by omega
    have hd : decide ((462 : Int) < (T.size : Int)) = false := by simp; omega
    have hN := HN.out
    have hn2 : IntKind.i64.wrap ((N : Int) - 2) = (N : Int) - 2 := wrap_in _ (by omega) (by omega)
    have hn2' : wrap64 ((N : Int) - 2) = (N : Int) - 2 := w64_small _ (by omega) (by omega)
    rcases HR.out.inv.1.full (by omega) with ⟨hf, hlen⟩ | ⟨⟨K0, hf⟩, hlen⟩
    · have hfl : st.s.first ≤ st.s.taken.length := by rw [HR.out.inv.1.sf, HR.out.inv.1.sl]; omega
      have HWR := Lib.hid (write_none HR.out.sys HR.out.ok (by have := HC.out; omega) hfl hf T hl')
      have hdl : decide ((all.length : Int) < (N : Int) - 2) = false := by simp; omega
      clear hl hl' hlen hfl hf
      go_wp2_with fail
      refine HWR.out.mono ?_
      rintro e w3 ⟨rfl, own3, h3, k3⟩
      have M3 := Lib.hid (HR.out.toPM.call h3 k3)
      have HA3 : Hid (Blk (w3.alloc (.cells #[.int .i64 0, .string ⟨#[]⟩] 54)) w3.heap.size 54 #[.int .i64 0, .string ⟨#[]⟩]) := Blk.new w3 54 _
      obtain ⟨own4, m4, _, _, _⟩ := M3.out.box 54 #[.int .i64 0, .string ⟨#[]⟩] #[.int .i64 (-1), .string ⟨#[]⟩]
      have P4 := Lib.hid m4
      clear h3 k3 HWR M3 m4 b2 hsl
      go_wp2_with (first
        | (refine wpList_store_row rfl 54 (.tmp 23) (.tmp 85) (by rfl) w3.heap.size #[.int .i64 (-1), .string ⟨#[]⟩] (by rfl) (by rfl) 54 _ HA3.out info54 (by rfl) (by simp [Value.oneCell']) ?_; generalize (w3.alloc (.cells #[.int .i64 0, .string ⟨#[]⟩] 54)).setRow w3.heap.size #[.int .i64 (-1), .string ⟨#[]⟩] = w4 at *)
        | fail)
      apply HEXIT.out
      exact ⟨P4.out, HR.out.ok.mono (by omega), HR.out.inv, HR.out.most⟩
    · have hwr := write_some HR.out.sys HR.out.ok (by have := HC.out; omega) hf T hl'
      have HOK := Lib.hid ((PS.write_okN HR.out.ok hf T hl').mono (m := c + 4) (by omega))
      obtain ⟨hi, hms⟩ := HR.out.inv.write (by rw [HR.out.most]; exact HMP.out) hf T hl'
      have HI := Lib.hid hi
      have HM2 := Lib.hid (hms.trans HR.out.most)
      have hdl : decide ((all.length : Int) < (N : Int) - 2) = true := by simp; omega
      clear hl hl' hf hi hms
      generalize (st.write T).1 = st2 at *
      generalize (st.write T).2.1 = r0 at *
      obtain ⟨pl, sm⟩ := r0
      unfold Ref.v Ref.cells at hwr
      dsimp only at *
      have HWR := Lib.hid hwr
      obtain ⟨i0, hi0, hz0, hz1, hz2⟩ := info_parts info73f
      clear hwr
      go_wp2_with fail
      refine HWR.out.mono ?_
      rintro e w3 ⟨rfl, own3, h3, k3⟩
      have M3 := Lib.hid (HR.out.toPM.call h3 k3)
      have HA3 : Hid (Blk (w3.alloc (.cells #[.int .i64 0, .string ⟨#[]⟩] 54)) w3.heap.size 54 #[.int .i64 0, .string ⟨#[]⟩]) := Blk.new w3 54 _
      obtain ⟨own4, m4, b4, _, _⟩ := M3.out.box 54 #[.int .i64 0, .string ⟨#[]⟩] #[.int .i64 pl, .string sm]
      have P4 := Lib.hid m4
      have B4 := Lib.hid b4
      clear h3 k3 HWR M3 m4 b4 b2 hsl
      go_wp2_with (first
        | (refine wpList_store_row rfl 54 (.tmp 23) (.tmp 85) (by rfl) w3.heap.size #[.int .i64 pl, .string sm] (by rfl) (by rfl) 54 _ HA3.out info54 (by rfl) (by simp [Value.oneCell']) ?_; generalize (w3.alloc (.cells #[.int .i64 0, .string ⟨#[]⟩] 54)).setRow w3.heap.size #[.int .i64 pl, .string sm] = w4 at *)
        | (refine wpList_load_row rfl 54 (.tmp 23) (by rfl) w3.heap.size (by rfl) 54 #[.int .i64 pl, .string sm] (0, 0) _ B4.out Tryz.underlying54 rfl info54 ?_)
        | (at_builtin; refine wpList_append_mid _ rfl (.tmp 110) (.tmp 114) 69 rfl W.heap.size 73 i0 (.agg #[.int .i64 0, .string ⟨#[]⟩, .string ⟨#[]⟩, .bool false, .bool false]) 5 48 Tryz.underlying69 hi0 hz0 hz1 hz2 rfl (by decide) _ _ _ rfl (P4.out.mid.alloc _) (some ⟨w4.heap.size, 0, none⟩) 1 1 [.int .i64 pl, .string sm, .string T, .bool true, .bool false] rfl rfl (row_cells w4 _ 73) (by simp [Value.oneCell']) (by simp only [maxLen]; omega) (by omega) (Nat.le_trans P4.out.kp.size (by simp)) ?_; intro v6 w6 hm6 hg6 ho6; have HM6 := Lib.hid hm6; have HG6 := Lib.hid hg6; have HO6 := Lib.hid ho6; clear hm6 hg6 ho6)
        | fail)
      apply HEXIT.out
      have hO : Only w4 w6 (Value.slice A12 all.length c12).ownBlock.toList := ((Only.refl w4 _).alloc _).trans (Only.of_grown HG6.out (fun g e => Option.mem_toList.2 e))
      have hm6 : Mid w6 W.heap.size 73 5 v6 (all ++ ([⟨⟨pl, sm⟩, T, true, false⟩] : List Pg)).length (pgs (all ++ ([⟨⟨pl, sm⟩, T, true, false⟩] : List Pg))) := by
        rw [pgs_app, List.length_append]
        exact HM6.out
      exact ⟨P4.out.turn HW0.out hO (fun y hy => ⟨P4.out.z y (Option.mem_toList.1 hy), (P4.out.mid.block y (Option.mem_toList.1 hy)).1⟩) hm6 (fun g hg => by
        rcases HO6.out with e | e
        · rw [e] at hg; exact .inl (P4.out.z g hg)
        · rw [e] at hg; injection hg with hg; rw [← hg]; exact .inr (by simp)), HOK.out, HI.out, HM2.out⟩

end Go.Proofs.YtimpjlnbbdfehaaGreatDoor
namespace Go.Proofs.YtimpjlnbbdfehaaGreatDoor
open Go.RowKit Go.Shelf Go.Lib Go.Sort
set_option linter.unusedVariables false
attribute [local go_sem ↓] shr_32_1 shl_32_1 shr_32_2 shl_32_2 shr_32_3 shl_32_3 shr_32_4 shl_32_4 shr_32_5 shl_32_5 shr_32_6 shl_32_6 shr_32_7 shl_32_7 shr_32_8 shl_32_8 shr_32_9 shl_32_9 shr_32_10 shl_32_10 shr_32_11 shl_32_11 shr_32_12 shl_32_12 shr_32_13 shl_32_13 shr_32_14 shl_32_14 shr_32_15 shl_32_15 shr_32_16 shl_32_16 shr_32_17 shl_32_17 shr_32_18 shl_32_18 shr_32_19 shl_32_19 shr_32_20 shl_32_20 shr_32_21 shl_32_21 shr_32_22 shl_32_22 shr_32_23 shl_32_23 shr_32_24 shl_32_24 shr_32_25 shl_32_25 shr_32_26 shl_32_26 shr_32_27 shl_32_27 shr_32_28 shl_32_28 shr_32_29 shl_32_29 shr_32_30 shl_32_30 shr_32_31 shl_32_31 shr_64_3 shl_64_3 shr_64_7 shl_64_7 shr_64_8 shl_64_8 shr_64_16 shl_64_16 shr_64_24 shl_64_24 shr_64_32 shl_64_32 shr_64_40 shl_64_40 shr_64_48 shl_64_48 shr_64_56 shl_64_56
attribute [local go_sem] add_u32 add_u64 and_u8 or_u8 xor_u8 and_u32 or_u32 xor_u32 and_u64 or_u64 xor_u64 conv_32_8 conv_64_8 conv_64_32 conv_8_32 conv_8_64 conv_32_64

/-- Beside the pages, those that stay. -/
structure KI (W wr : World) (i : Ids) (st : PS) (own : Nat → Nat) (v : Value) (all : List Pg) (u : Value) (kl : List Pg) : Prop where
  pm : PM W wr i st own v all
  mid : Mid wr W.heap.size 73 5 u kl.length (pgs kl)
  z : ∀ g, u.ownBlock = some g → own g = 0
  dis : ∀ g, u.ownBlock = some g → v.ownBlock ≠ some g
theorem KI.keeps {W w1 w2 : World} {i : Ids} {st : PS} {own own2 : Nat → Nat} {v u : Value} {all kl : List Pg} (h : KI W w1 i st own v all u kl) (p : PM W w2 i st own2 v all) (k : Keeps w1 w2 own own2) : KI W w2 i st own2 v all u kl :=
  ⟨p, h.mid.keeps k h.z, h.mid.z k h.z, h.dis⟩
theorem KI.start {W w : World} {i : Ids} {st : PS} {own : Nat → Nat} {v : Value} {all : List Pg} (h : PM W w i st own v all) : ∃ own2, KI W (w.alloc (.cells #[] 73)) i st own2 v all (.slice (some ⟨w.heap.size, 0, none⟩) 0 0) [] := by
  obtain ⟨a, b⟩ := h.sys.box0 (.cells #[] 73)
  refine ⟨_, h.call a b, empty_mid w 73 5 h.kp.size, fun g hg => ?_, fun g hg e => ?_⟩
  · have hg' : some w.heap.size = some g := hg
    injection hg' with hg'
    rw [← hg']
    exact mark_new (Nat.le_refl _)
  · have hg' : some w.heap.size = some g := hg
    injection hg' with hg'
    obtain ⟨_, cur, hc⟩ := h.mid.block g e
    have := hc.lt
    omega
/-- Blocks of the call's own are turned, the slices are not. -/
theorem KI.turn {W w1 w2 : World} {i : Ids} {st : PS} {own : Nat → Nat} {v u : Value} {all kl : List Pg} (hW : 0 < W.heap.size) (h : KI W w1 i st own v all u kl) {S : List Nat} (ho : Only w1 w2 S) (hS : ∀ x ∈ S, own x = 0 ∧ W.heap.size ≤ x) (h1 : ∀ g, v.ownBlock = some g → g ∉ S) (h2 : ∀ g, u.ownBlock = some g → g ∉ S) :
    ∃ own2, KI W w2 i st own2 v all u kl := by
  refine ⟨_, h.pm.turn hW ho hS (h.pm.mid.only ho h1) (fun g hg => .inl (h.pm.z g hg)), h.mid.only ho h2, fun g hg => ?_, h.dis⟩
  obtain ⟨_, cur, hc⟩ := h.mid.block g hg
  rw [mark_old hc.lt]
  exact h.z g hg
theorem KI.push {W w5 w6 : World} {i : Ids} {st : PS} {own : Nat → Nat} {v u u6 : Value} {all kl : List Pg} (hW : 0 < W.heap.size) (h : KI W w5 i st own v all u kl) {o : Obj} {x : Pg} (hm : Mid w6 W.heap.size 73 5 u6 (kl.length + 1) (pgs kl ++ x.cells)) (hg : (w5.alloc o).grownBy w6 u.ownBlock) (ho : u6.ownBlock = u.ownBlock ∨ u6.ownBlock = some (w5.alloc o).heap.size) :
    ∃ own2, KI W w6 i st own2 v all u6 (kl ++ [x]) := by
  have hO : Only w5 w6 u.ownBlock.toList := ((Only.refl w5 _).alloc _).trans (Only.of_grown hg (fun g e => Option.mem_toList.2 e))
  have hd : ∀ g, v.ownBlock = some g → g ∉ u.ownBlock.toList := fun g e hm => h.dis g (Option.mem_toList.1 hm) e
  refine ⟨_, h.pm.turn hW hO (fun y hy => ⟨h.z y (Option.mem_toList.1 hy), (h.mid.block y (Option.mem_toList.1 hy)).1⟩) (h.pm.mid.only hO hd) (fun g e => .inl (h.pm.z g e)), ?_, fun g e => ?_, fun g e e2 => ?_⟩
  · rw [pgs_app, List.length_append]
    exact hm
  · rcases ho with q | q
    · rw [q] at e
      obtain ⟨_, cur, hc⟩ := h.mid.block g e
      rw [mark_old hc.lt]
      exact h.z g e
    · rw [q] at e
      injection e with e
      rw [← e]
      exact mark_new (by simp)
  · rcases ho with q | q
    · rw [q] at e
      exact h.dis g e e2
    · rw [q] at e
      injection e with e
      obtain ⟨_, cur, hc⟩ := h.pm.mid.block g e2
      have := hc.lt
      rw [← e] at this
      simp at this
      omega
def keepL (p : Pg → Bool) (all : List Pg) (k : Nat) : List Pg := ((all.take k).filter p).map Pg.reset
theorem keepL_yes (p : Pg → Bool) (all : List Pg) (k : Nat) (hk : k < all.length) (h : p all[k] = true) : keepL p all (k + 1) = keepL p all k ++ [all[k].reset] := by
  unfold keepL
  rw [List.take_succ_eq_append_getElem hk, List.filter_append, List.map_append]
  simp [h]
theorem keepL_no (p : Pg → Bool) (all : List Pg) (k : Nat) (hk : k < all.length) (h : p all[k] = false) : keepL p all (k + 1) = keepL p all k := by
  unfold keepL
  rw [List.take_succ_eq_append_getElem hk, List.filter_append, List.map_append]
  simp [h]
theorem keepL_len (p : Pg → Bool) (all : List Pg) (k : Nat) : (keepL p all k).length ≤ all.length := by
  unfold keepL
  rw [List.length_map]
  exact Nat.le_trans (List.length_filter_le _ _) (by rw [List.length_take]; omega)
theorem row_five (w : World) (l : List Value) (t : TypeId) : Row (w.alloc (.cells l.toArray t)) (some ⟨w.heap.size, 0, none⟩) l := row_cells w l t
set_option maxHeartbeats 16000000 in
set_option maxRecDepth 100000 in
theorem arm_done (K : Act → World → Prop) (Q0 : Exit → Act → World → Prop) (wh : Int) (W w : World) (i : Ids) (N c M : Nat) (st : PS) (own : Nat → Nat) (all : List Pg) (A12 : Option Addr) (c12 gb : Nat) (t an : Int) (sa : ByteArray) (aw : Int) (x0 x1 x2 x3 x4 x5 x6 x9 x10 x11 x13 x16 x17 x18 x19 x20 x21 x22 x23 x24 x25 x26 x27 x28 x29 x30 x31 x32 x33 x34 x35 x36 x37 x38 x39 x40 x41 x42 x43 x44 x45 x46 x47 x48 x49 x50 x51 x52 x53 x54 x55 x56 x57 x58 x59 x60 x61 x62 x63 x64 x65 x66 x67 x68 x69 x70 x71 x72 x74 x75 x76 x77 x78 x79 x80 x81 x82 x83 x84 x85 x86 x87 x88 x89 x90 x91 x92 x93 x94 x95 x96 x97 x98 x99 x100 x101 x102 x103 x104 x105 x106 x107 x108 x109 x110 x111 x112 x113 x114 x115 x116 x117 x118 x119 x120 x121 x122 x123 x124 x125 x126 x127 x128 x129 x130 x131 x132 x133 x134 x135 x136 x137 x138 x139 x140 x141 x142 x143 x144 x145 x146 x147 x148 x149 x150 x151 x152 x153 x154 x155 x156 x157 x158 x159 x160 x161 x162 x163 x164 x165 x166 x167 x168 x169 x170 x171 x172 x173 x174 x175 x176 x177 x178 x179 x180 x181 x182 x183 x184 x185 x186 x187 x188 x189 x190 x191 x192 x193 x194 x195 x196 x197 x198 x199 x200 x201 x202 x203 x204 x205 x206 x207 x208 x209 x210 x211 x212 x213 x214 x215 x216 x217 x218 x219 x220 x221 x222 x223 x224 x225 x226 x227 x228 x229 x230 x231 x232 x233 x234 x235 x236 x237 x238 x239 x240 x241 x242 x243 x244 x245 x246 x247 x248 x249 x250 x251 x252 x253 x254 x255 x256 x257 x258 : Value)
    (HR : Hid (PR W w i N c M st own all (.slice A12 all.length c12))) (HB : Hid (Blk w gb 71 #[.int .i64 aw, .int .i64 an, .string sa])) (HZ : Hid (own gb = 0)) (HT : Hid ((all = [] ∧ t = -1) ∨ ∃ j : Nat, j < all.length ∧ t = (j : Int))) (HN : Hid (3 ≤ N ∧ N ≤ 18)) (HC : Hid (c ≤ 200)) (HMP : Hid (1 ≤ M)) (HSL : Hid (sa.size ≤ maxLen)) (HWH : wh = 5) (HW0 : Hid (0 < W.heap.size)) (HAW : Hid ((aw % 8 == 5) = true)) 
    (HEXIT : Hid (∀ (y6 y16 y17 y18 y19 y20 y21 y22 y23 y24 y74 y75 y76 y77 y78 y79 y80 y81 y82 y83 y84 y85 y86 y87 y88 y89 y90 y91 y92 y93 y94 y95 y96 y97 y98 y99 y100 y101 y102 y103 y104 y105 y106 y107 y108 y109 y110 y111 y112 y113 y114 y115 y116 y117 y118 y119 y120 y121 y122 y123 y124 y125 y126 y127 y128 y129 y130 y131 y132 y133 y134 y135 y136 y137 y138 y139 y140 y141 y142 y143 y144 y145 y146 y147 y148 y149 y150 y151 y152 y153 y154 y155 y156 y157 y158 y159 y160 y161 y162 y163 y164 y165 y166 y167 y168 y169 y170 y171 y172 y173 y174 y175 y176 y177 y178 y179 y180 y181 y182 y183 y184 y185 y186 y187 y188 y189 y190 y191 y192 y193 y194 y195 y196 y197 y198 y199 y200 y201 y202 y203 y204 y205 y206 y207 y208 y209 y210 y211 y212 y213 y214 y215 y216 y217 y218 y219 y220 y221 y222 y223 y224 y225 y226 y227 y228 y229 y230 y231 y232 y233 y234 y235 y236 y237 y238 y239 v : Value) (st2 : PS) (own2 : Nat → Nat) (all2 : List Pg) (w2 : World), PR W w2 i N (c + 4) M st2 own2 all2 v → K ⟨(x0 :: x1 :: x2 :: x3 :: x4 :: x5 :: y6 :: .int .i64 (N : Int) :: .pointer (some ⟨i.p, 0, none⟩) :: x9 :: x10 :: x11 :: v :: x13 :: .pointer (some ⟨gb, 0, none⟩) :: .int .i64 t :: y16 :: y17 :: y18 :: y19 :: y20 :: y21 :: y22 :: y23 :: y24 :: x25 :: x26 :: x27 :: x28 :: x29 :: x30 :: x31 :: x32 :: x33 :: x34 :: x35 :: x36 :: x37 :: x38 :: x39 :: x40 :: x41 :: x42 :: x43 :: x44 :: x45 :: x46 :: x47 :: x48 :: x49 :: x50 :: x51 :: x52 :: x53 :: x54 :: x55 :: x56 :: x57 :: x58 :: x59 :: x60 :: x61 :: x62 :: x63 :: x64 :: x65 :: x66 :: x67 :: x68 :: x69 :: x70 :: x71 :: x72 :: .int .i64 wh :: y74 :: y75 :: y76 :: y77 :: y78 :: y79 :: y80 :: y81 :: y82 :: y83 :: y84 :: y85 :: y86 :: y87 :: y88 :: y89 :: y90 :: y91 :: y92 :: y93 :: y94 :: y95 :: y96 :: y97 :: y98 :: y99 :: y100 :: y101 :: y102 :: y103 :: y104 :: y105 :: y106 :: y107 :: y108 :: y109 :: y110 :: y111 :: y112 :: y113 :: y114 :: y115 :: y116 :: y117 :: y118 :: y119 :: y120 :: y121 :: y122 :: y123 :: y124 :: y125 :: y126 :: y127 :: y128 :: y129 :: y130 :: y131 :: y132 :: y133 :: y134 :: y135 :: y136 :: y137 :: y138 :: y139 :: y140 :: y141 :: y142 :: y143 :: y144 :: y145 :: y146 :: y147 :: y148 :: y149 :: y150 :: y151 :: y152 :: y153 :: y154 :: y155 :: y156 :: y157 :: y158 :: y159 :: y160 :: y161 :: y162 :: y163 :: y164 :: y165 :: y166 :: y167 :: y168 :: y169 :: y170 :: y171 :: y172 :: y173 :: y174 :: y175 :: y176 :: y177 :: y178 :: y179 :: y180 :: y181 :: y182 :: y183 :: y184 :: y185 :: y186 :: y187 :: y188 :: y189 :: y190 :: y191 :: y192 :: y193 :: y194 :: y195 :: y196 :: y197 :: y198 :: y199 :: y200 :: y201 :: y202 :: y203 :: y204 :: y205 :: y206 :: y207 :: y208 :: y209 :: y210 :: y211 :: y212 :: y213 :: y214 :: y215 :: y216 :: y217 :: y218 :: y219 :: y220 :: y221 :: y222 :: y223 :: y224 :: y225 :: y226 :: y227 :: y228 :: y229 :: y230 :: y231 :: y232 :: y233 :: y234 :: y235 :: y236 :: y237 :: y238 :: y239 :: x240 :: x241 :: x242 :: x243 :: x244 :: x245 :: x246 :: x247 :: x248 :: x249 :: x250 :: x251 :: x252 :: x253 :: x254 :: x255 :: x256 :: x257 :: x258 :: []).toArray, []⟩ w2)) :
    Code.wp Tryz.prog sw7 (Exit.then K Q0) ⟨(x0 :: x1 :: x2 :: x3 :: x4 :: x5 :: x6 :: .int .i64 (N : Int) :: .pointer (some ⟨i.p, 0, none⟩) :: x9 :: x10 :: x11 :: .slice A12 all.length c12 :: x13 :: .pointer (some ⟨gb, 0, none⟩) :: .int .i64 t :: x16 :: x17 :: x18 :: x19 :: x20 :: x21 :: x22 :: x23 :: x24 :: x25 :: x26 :: x27 :: x28 :: x29 :: x30 :: x31 :: x32 :: x33 :: x34 :: x35 :: x36 :: x37 :: x38 :: x39 :: x40 :: x41 :: x42 :: x43 :: x44 :: x45 :: x46 :: x47 :: x48 :: x49 :: x50 :: x51 :: x52 :: x53 :: x54 :: x55 :: x56 :: x57 :: x58 :: x59 :: x60 :: x61 :: x62 :: x63 :: x64 :: x65 :: x66 :: x67 :: x68 :: x69 :: x70 :: x71 :: x72 :: .int .i64 wh :: x74 :: x75 :: x76 :: x77 :: x78 :: x79 :: x80 :: x81 :: x82 :: x83 :: x84 :: x85 :: x86 :: x87 :: x88 :: x89 :: x90 :: x91 :: x92 :: x93 :: x94 :: x95 :: x96 :: x97 :: x98 :: x99 :: x100 :: x101 :: x102 :: x103 :: x104 :: x105 :: x106 :: x107 :: x108 :: x109 :: x110 :: x111 :: x112 :: x113 :: x114 :: x115 :: x116 :: x117 :: x118 :: x119 :: x120 :: x121 :: x122 :: x123 :: x124 :: x125 :: x126 :: x127 :: x128 :: x129 :: x130 :: x131 :: x132 :: x133 :: x134 :: x135 :: x136 :: x137 :: x138 :: x139 :: x140 :: x141 :: x142 :: x143 :: x144 :: x145 :: x146 :: x147 :: x148 :: x149 :: x150 :: x151 :: x152 :: x153 :: x154 :: x155 :: x156 :: x157 :: x158 :: x159 :: x160 :: x161 :: x162 :: x163 :: x164 :: x165 :: x166 :: x167 :: x168 :: x169 :: x170 :: x171 :: x172 :: x173 :: x174 :: x175 :: x176 :: x177 :: x178 :: x179 :: x180 :: x181 :: x182 :: x183 :: x184 :: x185 :: x186 :: x187 :: x188 :: x189 :: x190 :: x191 :: x192 :: x193 :: x194 :: x195 :: x196 :: x197 :: x198 :: x199 :: x200 :: x201 :: x202 :: x203 :: x204 :: x205 :: x206 :: x207 :: x208 :: x209 :: x210 :: x211 :: x212 :: x213 :: x214 :: x215 :: x216 :: x217 :: x218 :: x219 :: x220 :: x221 :: x222 :: x223 :: x224 :: x225 :: x226 :: x227 :: x228 :: x229 :: x230 :: x231 :: x232 :: x233 :: x234 :: x235 :: x236 :: x237 :: x238 :: x239 :: x240 :: x241 :: x242 :: x243 :: x244 :: x245 :: x246 :: x247 :: x248 :: x249 :: x250 :: x251 :: x252 :: x253 :: x254 :: x255 :: x256 :: x257 :: x258 :: []).toArray, []⟩ w := by
  conv => arg 2; whnf
  subst HWH
  have hN := HN.out
  have hln := HR.out.len (by omega)
  have ha7 := and7
  have tdn : (aw % 8 == 5) = true := HAW.out
  have b0 := HB.out.cell 0
  have HOP := Lib.hid (fun w1 own1 (h1 : SysC w1 i st own1) => done_ok h1 HR.out.ok (by have := HC.out; omega) HR.out.inv.1.cnt)
  have HI := Lib.hid HR.out.inv.done
  have HOK := Lib.hid ((PS.done_okN HR.out.ok HR.out.inv.1.cnt).mono (m := c + 4) (by omega))
  have HMS : Hid (st.most = M) := HR.out.most
  have HK0 := Lib.hid (KI.start HR.out.toPM)
  have HL0 : Hid (keepL (fun x => !x.old) all 0 = []) := by show _ = _; unfold keepL; simp
  have HLL : Hid (keepL (fun x => !x.old) all all.length = (all.filter fun x => !x.old).map Pg.reset) := by show _ = _; unfold keepL; rw [List.take_length]
  have HLB := Lib.hid (fun k => keepL_len (fun x => !x.old) all k)
  have HYES := Lib.hid (fun k hk h => keepL_yes (fun x => !x.old) all k hk h)
  have HNO := Lib.hid (fun k hk h => keepL_no (fun x => !x.old) all k hk h)
  generalize keepL (fun x => !x.old) all = KL at *
  obtain ⟨i0, hi0, hz0, hz1, hz2⟩ := info_parts info73f
  clear HT HMP HC HN
  go_wp2_with fail
  generalize w.alloc (.cells #[] 73) = w2 at *
  generalize (Value.slice (some ⟨w.heap.size, 0, none⟩) 0 0) = u0 at *
  go_loopg [19, 20] (all.length : Nat) (fun q v19 v20 wr => ∃ (k : Nat) (own2 : Nat → Nat), q + k = all.length ∧ v20 = .int .i64 (k : Int) ∧ KI W wr i st own2 (.slice A12 all.length c12) all v19 (KL k))
  case atStart =>
    obtain ⟨own2, h⟩ := HK0.out
    exact ⟨0, own2, rfl, rfl, by rw [HL0.out]; exact h⟩
  case round =>
    obtain ⟨k, own2, hq, rfl, hki⟩ := hrel
    have R := Lib.hid hki
    clear hki HK0
    by_cases hlt : k < all.length
    · have hin : decide ((k : Int) < (all.length : Int)) = true := by simp; omega
      have hki : (k : Int) < (all.length : Int) := by omega
      obtain ⟨g7, o7, c7, hv7, hcs⟩ := R.out.pm.mid.open_ (by omega)
      injection hv7 with hA7 hn7 hc7
      clear hn7 hc7
      subst hA7
      have HXL : Hid (∀ j u, all[k].cells[j]? = some u → wr.cell? ((⟨g7, o7 + k * 5, none⟩ : Addr).add j) = some u) := fun j u hj => by
        have hj5 : j < 5 := by
          have := (List.getElem?_eq_some_iff.1 hj).1
          simpa [Pg.cells] using this
        rw [add_at, Nat.add_assoc]
        exact hcs (k * 5 + j) u (by rw [pgs_get all k hlt j hj5]; exact hj)
      have HY1 := Lib.hid (HYES.out k hlt)
      have HN1 := Lib.hid (HNO.out k hlt)
      clear hcs
      generalize all[k] = x at *
      obtain ⟨⟨pl, sm⟩, xs, xf, xo⟩ := x
      unfold Pg.cells at HXL
      dsimp only at HXL HY1 HN1
      have HA : Hid (Blk (wr.alloc (.cells #[.int .i64 0, .string ⟨#[]⟩, .string ⟨#[]⟩, .bool false, .bool false] 73)) wr.heap.size 73 #[.int .i64 0, .string ⟨#[]⟩, .string ⟨#[]⟩, .bool false, .bool false]) := Blk.new wr 73 _
      obtain ⟨own4, m4, b4, z4, k4⟩ := R.out.pm.box 73 #[.int .i64 0, .string ⟨#[]⟩, .string ⟨#[]⟩, .bool false, .bool false] #[.int .i64 pl, .string sm, .string xs, .bool xf, .bool xo]
      have K4 := Lib.hid (R.out.keeps m4 k4)
      have B4 := Lib.hid b4
      have Z4 := Lib.hid z4
      have HGW : Hid (W.heap.size ≤ wr.heap.size) := R.out.pm.kp.size
      have HD1 : Hid (∀ g, (Value.slice (some ⟨g7, o7, none⟩) all.length c12).ownBlock = some g → g ∉ [wr.heap.size]) := fun g hg hm => by
        rw [List.mem_singleton] at hm
        obtain ⟨_, cur, hc⟩ := R.out.pm.mid.block g hg
        have := hc.lt
        omega
      have HD2 : Hid (∀ g, u19.ownBlock = some g → g ∉ [wr.heap.size]) := fun g hg hm => by
        rw [List.mem_singleton] at hm
        obtain ⟨_, cur, hc⟩ := R.out.mid.block g hg
        have := hc.lt
        omega
      have hlb := HLB.out k
      clear m4 b4 z4 k4 R
      cases xo
      · have hkl := HY1.out rfl
        unfold Pg.reset at hkl
        dsimp only at hkl
        have HKL := Lib.hid hkl
        have HB5 := Lib.hid ((B4.out.set_ 3 (.bool false)).set_ 4 (.bool false))
        obtain ⟨own5, k5⟩ := K4.out.turn HW0.out (S := [wr.heap.size]) (((Only.refl _ [wr.heap.size]).setCell (p := ⟨wr.heap.size, 3, none⟩) (List.mem_singleton.2 rfl) (.bool false)).setCell (p := ⟨wr.heap.size, 4, none⟩) (List.mem_singleton.2 rfl) (.bool false)) (fun y hy => by rw [List.mem_singleton] at hy; rw [hy]; exact ⟨Z4.out, HGW.out⟩) HD1.out HD2.out
        have K5 := Lib.hid k5
        clear k5 K4 hkl
        go_wp2_with (first
          | (refine wpList_load_at rfl 73 (.tmp 203) (by rfl) ⟨g7, o7 + k * 5, none⟩ (by rfl) [.int .i64 pl, .string sm, .string xs, .bool xf, .bool false] _ HXL.out Tryz.underlying73 rfl info73 ?_)
          | (refine wpList_store_row rfl 73 (.tmp 21) (.tmp 204) (by rfl) wr.heap.size #[.int .i64 pl, .string sm, .string xs, .bool xf, .bool false] (by rfl) (by rfl) 73 _ HA.out info73 (by rfl) (by simp [Value.oneCell']) ?_; generalize (wr.alloc (.cells #[.int .i64 0, .string ⟨#[]⟩, .string ⟨#[]⟩, .bool false, .bool false] 73)).setRow wr.heap.size #[.int .i64 pl, .string sm, .string xs, .bool xf, .bool false] = w4 at *; have e3 := B4.out.cell 3; have e4 := B4.out.cell 4; have f3 := B4.out.frozen 3; have f4 := B4.out.frozen 4)
          | (refine wpList_load_row rfl 73 (.tmp 21) (by rfl) wr.heap.size (by rfl) 73 #[.int .i64 pl, .string sm, .string xs, .bool false, .bool false] (0, 0) _ HB5.out Tryz.underlying73 rfl info73 ?_; generalize (w4.setCell ⟨wr.heap.size, 3, none⟩ (.bool false)).setCell ⟨wr.heap.size, 4, none⟩ (.bool false) = w5 at *)
          | (at_builtin; refine wpList_append_mid _ rfl (.tmp 222) (.tmp 224) 69 rfl W.heap.size 73 i0 (.agg #[.int .i64 0, .string ⟨#[]⟩, .string ⟨#[]⟩, .bool false, .bool false]) 5 48 Tryz.underlying69 hi0 hz0 hz1 hz2 rfl (by decide) _ _ _ rfl (K5.out.mid.alloc _) (some ⟨w5.heap.size, 0, none⟩) 1 1 [.int .i64 pl, .string sm, .string xs, .bool false, .bool false] rfl rfl (row_cells w5 _ 73) (by simp [Value.oneCell']) (by simp only [maxLen]; omega) (by omega) (Nat.le_trans K5.out.pm.kp.size (by simp)) ?_; intro v6 w6 hm6 hg6 ho6; have HM6 := Lib.hid hm6; have HG6 := Lib.hid hg6; have HO6 := Lib.hid ho6; clear hm6 hg6 ho6)
          | fail)
        obtain ⟨own6, k6⟩ := K5.out.push (x := ⟨⟨pl, sm⟩, xs, false, false⟩) HW0.out HM6.out HG6.out HO6.out
        have K6 := Lib.hid k6
        clear k6
        go_roundg (gk - 1)
        case measure => omega
        case rel => exact ⟨k + 1, own6, by omega, by go_num, by rw [HKL.out]; exact K6.out⟩
      · have hkl := HN1.out rfl
        go_wp2_with (first
          | (refine wpList_load_at rfl 73 (.tmp 203) (by rfl) ⟨g7, o7 + k * 5, none⟩ (by rfl) [.int .i64 pl, .string sm, .string xs, .bool xf, .bool true] _ HXL.out Tryz.underlying73 rfl info73 ?_)
          | (refine wpList_store_row rfl 73 (.tmp 21) (.tmp 204) (by rfl) wr.heap.size #[.int .i64 pl, .string sm, .string xs, .bool xf, .bool true] (by rfl) (by rfl) 73 _ HA.out info73 (by rfl) (by simp [Value.oneCell']) ?_; generalize (wr.alloc (.cells #[.int .i64 0, .string ⟨#[]⟩, .string ⟨#[]⟩, .bool false, .bool false] 73)).setRow wr.heap.size #[.int .i64 pl, .string sm, .string xs, .bool xf, .bool true] = w4 at *; have e3 := B4.out.cell 3; have e4 := B4.out.cell 4)
          | fail)
        go_roundg (gk - 1)
        case measure => omega
        case rel => exact ⟨k + 1, own4, by omega, by go_num, by rw [hkl]; exact K4.out⟩
    · obtain rfl : k = all.length := by omega
      have hin : decide ((all.length : Int) < (all.length : Int)) = false := by simp
      go_wp2_with fail
      refine (HOP.out wr own2 R.out.pm.sys).mono ?_
      rintro e w9 ⟨rfl, own9, h9, k9⟩
      have hmid := R.out.mid.keeps k9 R.out.z
      rw [HLL.out] at hmid
      have M9 : Hid (PM W w9 i st.done own9 u19 ((all.filter fun x => !x.old).map Pg.reset)) := ⟨h9, R.out.pm.kp.trans k9, hmid, R.out.mid.z k9 R.out.z⟩
      clear h9 k9 hmid HOP R
      go_wp2_with fail
      apply HEXIT.out
      exact ⟨M9.out, HOK.out, HI.out.1, HI.out.2.trans HMS.out⟩

end Go.Proofs.YtimpjlnbbdfehaaGreatDoor
namespace Go.Proofs.YtimpjlnbbdfehaaGreatDoor
open Go.RowKit Go.Shelf Go.Lib Go.Sort
set_option linter.unusedVariables false
attribute [local go_sem ↓] shr_32_1 shl_32_1 shr_32_2 shl_32_2 shr_32_3 shl_32_3 shr_32_4 shl_32_4 shr_32_5 shl_32_5 shr_32_6 shl_32_6 shr_32_7 shl_32_7 shr_32_8 shl_32_8 shr_32_9 shl_32_9 shr_32_10 shl_32_10 shr_32_11 shl_32_11 shr_32_12 shl_32_12 shr_32_13 shl_32_13 shr_32_14 shl_32_14 shr_32_15 shl_32_15 shr_32_16 shl_32_16 shr_32_17 shl_32_17 shr_32_18 shl_32_18 shr_32_19 shl_32_19 shr_32_20 shl_32_20 shr_32_21 shl_32_21 shr_32_22 shl_32_22 shr_32_23 shl_32_23 shr_32_24 shl_32_24 shr_32_25 shl_32_25 shr_32_26 shl_32_26 shr_32_27 shl_32_27 shr_32_28 shl_32_28 shr_32_29 shl_32_29 shr_32_30 shl_32_30 shr_32_31 shl_32_31 shr_64_3 shl_64_3 shr_64_7 shl_64_7 shr_64_8 shl_64_8 shr_64_16 shl_64_16 shr_64_24 shl_64_24 shr_64_32 shl_64_32 shr_64_40 shl_64_40 shr_64_48 shl_64_48 shr_64_56 shl_64_56
attribute [local go_sem] add_u32 add_u64 and_u8 or_u8 xor_u8 and_u32 or_u32 xor_u32 and_u64 or_u64 xor_u64 conv_32_8 conv_64_8 conv_64_32 conv_8_32 conv_8_64 conv_32_64

set_option maxHeartbeats 16000000 in
set_option maxRecDepth 100000 in
theorem arm_undo (K : Act → World → Prop) (Q0 : Exit → Act → World → Prop) (wh : Int) (W w : World) (i : Ids) (N c M : Nat) (st : PS) (own : Nat → Nat) (all : List Pg) (A12 : Option Addr) (c12 gb : Nat) (t an : Int) (sa : ByteArray) (aw : Int) (x0 x1 x2 x3 x4 x5 x6 x9 x10 x11 x13 x16 x17 x18 x19 x20 x21 x22 x23 x24 x25 x26 x27 x28 x29 x30 x31 x32 x33 x34 x35 x36 x37 x38 x39 x40 x41 x42 x43 x44 x45 x46 x47 x48 x49 x50 x51 x52 x53 x54 x55 x56 x57 x58 x59 x60 x61 x62 x63 x64 x65 x66 x67 x68 x69 x70 x71 x72 x74 x75 x76 x77 x78 x79 x80 x81 x82 x83 x84 x85 x86 x87 x88 x89 x90 x91 x92 x93 x94 x95 x96 x97 x98 x99 x100 x101 x102 x103 x104 x105 x106 x107 x108 x109 x110 x111 x112 x113 x114 x115 x116 x117 x118 x119 x120 x121 x122 x123 x124 x125 x126 x127 x128 x129 x130 x131 x132 x133 x134 x135 x136 x137 x138 x139 x140 x141 x142 x143 x144 x145 x146 x147 x148 x149 x150 x151 x152 x153 x154 x155 x156 x157 x158 x159 x160 x161 x162 x163 x164 x165 x166 x167 x168 x169 x170 x171 x172 x173 x174 x175 x176 x177 x178 x179 x180 x181 x182 x183 x184 x185 x186 x187 x188 x189 x190 x191 x192 x193 x194 x195 x196 x197 x198 x199 x200 x201 x202 x203 x204 x205 x206 x207 x208 x209 x210 x211 x212 x213 x214 x215 x216 x217 x218 x219 x220 x221 x222 x223 x224 x225 x226 x227 x228 x229 x230 x231 x232 x233 x234 x235 x236 x237 x238 x239 x240 x241 x242 x243 x244 x245 x246 x247 x248 x249 x250 x251 x252 x253 x254 x255 x256 x257 x258 : Value)
    (HR : Hid (PR W w i N c M st own all (.slice A12 all.length c12))) (HB : Hid (Blk w gb 71 #[.int .i64 aw, .int .i64 an, .string sa])) (HZ : Hid (own gb = 0)) (HT : Hid ((all = [] ∧ t = -1) ∨ ∃ j : Nat, j < all.length ∧ t = (j : Int))) (HN : Hid (3 ≤ N ∧ N ≤ 18)) (HC : Hid (c ≤ 200)) (HMP : Hid (1 ≤ M)) (HSL : Hid (sa.size ≤ maxLen)) (HWH : wh = 6) (HW0 : Hid (0 < W.heap.size)) (HAW : Hid ((aw % 8 == 5) = false)) 
    (HEXIT : Hid (∀ (y6 y16 y17 y18 y19 y20 y21 y22 y23 y24 y74 y75 y76 y77 y78 y79 y80 y81 y82 y83 y84 y85 y86 y87 y88 y89 y90 y91 y92 y93 y94 y95 y96 y97 y98 y99 y100 y101 y102 y103 y104 y105 y106 y107 y108 y109 y110 y111 y112 y113 y114 y115 y116 y117 y118 y119 y120 y121 y122 y123 y124 y125 y126 y127 y128 y129 y130 y131 y132 y133 y134 y135 y136 y137 y138 y139 y140 y141 y142 y143 y144 y145 y146 y147 y148 y149 y150 y151 y152 y153 y154 y155 y156 y157 y158 y159 y160 y161 y162 y163 y164 y165 y166 y167 y168 y169 y170 y171 y172 y173 y174 y175 y176 y177 y178 y179 y180 y181 y182 y183 y184 y185 y186 y187 y188 y189 y190 y191 y192 y193 y194 y195 y196 y197 y198 y199 y200 y201 y202 y203 y204 y205 y206 y207 y208 y209 y210 y211 y212 y213 y214 y215 y216 y217 y218 y219 y220 y221 y222 y223 y224 y225 y226 y227 y228 y229 y230 y231 y232 y233 y234 y235 y236 y237 y238 y239 v : Value) (st2 : PS) (own2 : Nat → Nat) (all2 : List Pg) (w2 : World), PR W w2 i N (c + 4) M st2 own2 all2 v → K ⟨(x0 :: x1 :: x2 :: x3 :: x4 :: x5 :: y6 :: .int .i64 (N : Int) :: .pointer (some ⟨i.p, 0, none⟩) :: x9 :: x10 :: x11 :: v :: x13 :: .pointer (some ⟨gb, 0, none⟩) :: .int .i64 t :: y16 :: y17 :: y18 :: y19 :: y20 :: y21 :: y22 :: y23 :: y24 :: x25 :: x26 :: x27 :: x28 :: x29 :: x30 :: x31 :: x32 :: x33 :: x34 :: x35 :: x36 :: x37 :: x38 :: x39 :: x40 :: x41 :: x42 :: x43 :: x44 :: x45 :: x46 :: x47 :: x48 :: x49 :: x50 :: x51 :: x52 :: x53 :: x54 :: x55 :: x56 :: x57 :: x58 :: x59 :: x60 :: x61 :: x62 :: x63 :: x64 :: x65 :: x66 :: x67 :: x68 :: x69 :: x70 :: x71 :: x72 :: .int .i64 wh :: y74 :: y75 :: y76 :: y77 :: y78 :: y79 :: y80 :: y81 :: y82 :: y83 :: y84 :: y85 :: y86 :: y87 :: y88 :: y89 :: y90 :: y91 :: y92 :: y93 :: y94 :: y95 :: y96 :: y97 :: y98 :: y99 :: y100 :: y101 :: y102 :: y103 :: y104 :: y105 :: y106 :: y107 :: y108 :: y109 :: y110 :: y111 :: y112 :: y113 :: y114 :: y115 :: y116 :: y117 :: y118 :: y119 :: y120 :: y121 :: y122 :: y123 :: y124 :: y125 :: y126 :: y127 :: y128 :: y129 :: y130 :: y131 :: y132 :: y133 :: y134 :: y135 :: y136 :: y137 :: y138 :: y139 :: y140 :: y141 :: y142 :: y143 :: y144 :: y145 :: y146 :: y147 :: y148 :: y149 :: y150 :: y151 :: y152 :: y153 :: y154 :: y155 :: y156 :: y157 :: y158 :: y159 :: y160 :: y161 :: y162 :: y163 :: y164 :: y165 :: y166 :: y167 :: y168 :: y169 :: y170 :: y171 :: y172 :: y173 :: y174 :: y175 :: y176 :: y177 :: y178 :: y179 :: y180 :: y181 :: y182 :: y183 :: y184 :: y185 :: y186 :: y187 :: y188 :: y189 :: y190 :: y191 :: y192 :: y193 :: y194 :: y195 :: y196 :: y197 :: y198 :: y199 :: y200 :: y201 :: y202 :: y203 :: y204 :: y205 :: y206 :: y207 :: y208 :: y209 :: y210 :: y211 :: y212 :: y213 :: y214 :: y215 :: y216 :: y217 :: y218 :: y219 :: y220 :: y221 :: y222 :: y223 :: y224 :: y225 :: y226 :: y227 :: y228 :: y229 :: y230 :: y231 :: y232 :: y233 :: y234 :: y235 :: y236 :: y237 :: y238 :: y239 :: x240 :: x241 :: x242 :: x243 :: x244 :: x245 :: x246 :: x247 :: x248 :: x249 :: x250 :: x251 :: x252 :: x253 :: x254 :: x255 :: x256 :: x257 :: x258 :: []).toArray, []⟩ w2)) :
    Code.wp Tryz.prog sw7 (Exit.then K Q0) ⟨(x0 :: x1 :: x2 :: x3 :: x4 :: x5 :: x6 :: .int .i64 (N : Int) :: .pointer (some ⟨i.p, 0, none⟩) :: x9 :: x10 :: x11 :: .slice A12 all.length c12 :: x13 :: .pointer (some ⟨gb, 0, none⟩) :: .int .i64 t :: x16 :: x17 :: x18 :: x19 :: x20 :: x21 :: x22 :: x23 :: x24 :: x25 :: x26 :: x27 :: x28 :: x29 :: x30 :: x31 :: x32 :: x33 :: x34 :: x35 :: x36 :: x37 :: x38 :: x39 :: x40 :: x41 :: x42 :: x43 :: x44 :: x45 :: x46 :: x47 :: x48 :: x49 :: x50 :: x51 :: x52 :: x53 :: x54 :: x55 :: x56 :: x57 :: x58 :: x59 :: x60 :: x61 :: x62 :: x63 :: x64 :: x65 :: x66 :: x67 :: x68 :: x69 :: x70 :: x71 :: x72 :: .int .i64 wh :: x74 :: x75 :: x76 :: x77 :: x78 :: x79 :: x80 :: x81 :: x82 :: x83 :: x84 :: x85 :: x86 :: x87 :: x88 :: x89 :: x90 :: x91 :: x92 :: x93 :: x94 :: x95 :: x96 :: x97 :: x98 :: x99 :: x100 :: x101 :: x102 :: x103 :: x104 :: x105 :: x106 :: x107 :: x108 :: x109 :: x110 :: x111 :: x112 :: x113 :: x114 :: x115 :: x116 :: x117 :: x118 :: x119 :: x120 :: x121 :: x122 :: x123 :: x124 :: x125 :: x126 :: x127 :: x128 :: x129 :: x130 :: x131 :: x132 :: x133 :: x134 :: x135 :: x136 :: x137 :: x138 :: x139 :: x140 :: x141 :: x142 :: x143 :: x144 :: x145 :: x146 :: x147 :: x148 :: x149 :: x150 :: x151 :: x152 :: x153 :: x154 :: x155 :: x156 :: x157 :: x158 :: x159 :: x160 :: x161 :: x162 :: x163 :: x164 :: x165 :: x166 :: x167 :: x168 :: x169 :: x170 :: x171 :: x172 :: x173 :: x174 :: x175 :: x176 :: x177 :: x178 :: x179 :: x180 :: x181 :: x182 :: x183 :: x184 :: x185 :: x186 :: x187 :: x188 :: x189 :: x190 :: x191 :: x192 :: x193 :: x194 :: x195 :: x196 :: x197 :: x198 :: x199 :: x200 :: x201 :: x202 :: x203 :: x204 :: x205 :: x206 :: x207 :: x208 :: x209 :: x210 :: x211 :: x212 :: x213 :: x214 :: x215 :: x216 :: x217 :: x218 :: x219 :: x220 :: x221 :: x222 :: x223 :: x224 :: x225 :: x226 :: x227 :: x228 :: x229 :: x230 :: x231 :: x232 :: x233 :: x234 :: x235 :: x236 :: x237 :: x238 :: x239 :: x240 :: x241 :: x242 :: x243 :: x244 :: x245 :: x246 :: x247 :: x248 :: x249 :: x250 :: x251 :: x252 :: x253 :: x254 :: x255 :: x256 :: x257 :: x258 :: []).toArray, []⟩ w := by
  conv => arg 2; whnf
  subst HWH
  have hN := HN.out
  have hln := HR.out.len (by omega)
  have ha7 := and7
  have tdn : (aw % 8 == 5) = false := HAW.out
  have b0 := HB.out.cell 0
  have HOP := Lib.hid (fun w1 own1 (h1 : SysC w1 i st own1) => undo_ok h1 HR.out.ok (by have := HC.out; omega) HR.out.inv.1.cnt)
  have HI := Lib.hid HR.out.inv.undo
  have HOK := Lib.hid ((PS.undo_okN HR.out.ok HR.out.inv.1.cnt).mono (m := c + 4) (by omega))
  have HMS : Hid (st.most = M) := HR.out.most
  have HK0 := Lib.hid (KI.start HR.out.toPM)
  have HL0 : Hid (keepL (fun x => !x.fresh) all 0 = []) := by show _ = _; unfold keepL; simp
  have HLL : Hid (keepL (fun x => !x.fresh) all all.length = (all.filter fun x => !x.fresh).map Pg.reset) := by show _ = _; unfold keepL; rw [List.take_length]
  have HLB := Lib.hid (fun k => keepL_len (fun x => !x.fresh) all k)
  have HYES := Lib.hid (fun k hk h => keepL_yes (fun x => !x.fresh) all k hk h)
  have HNO := Lib.hid (fun k hk h => keepL_no (fun x => !x.fresh) all k hk h)
  generalize keepL (fun x => !x.fresh) all = KL at *
  obtain ⟨i0, hi0, hz0, hz1, hz2⟩ := info_parts info73f
  clear HT HMP HC HN
  go_wp2_with fail
  generalize w.alloc (.cells #[] 73) = w2 at *
  generalize (Value.slice (some ⟨w.heap.size, 0, none⟩) 0 0) = u0 at *
  go_loopg [19, 20] (all.length : Nat) (fun q v19 v20 wr => ∃ (k : Nat) (own2 : Nat → Nat), q + k = all.length ∧ v20 = .int .i64 (k : Int) ∧ KI W wr i st own2 (.slice A12 all.length c12) all v19 (KL k))
  case atStart =>
    obtain ⟨own2, h⟩ := HK0.out
    exact ⟨0, own2, rfl, rfl, by rw [HL0.out]; exact h⟩
  case round =>
    obtain ⟨k, own2, hq, rfl, hki⟩ := hrel
    have R := Lib.hid hki
    clear hki HK0
    by_cases hlt : k < all.length
    · have hin : decide ((k : Int) < (all.length : Int)) = true := by simp; omega
      have hki : (k : Int) < (all.length : Int) := by omega
      obtain ⟨g7, o7, c7, hv7, hcs⟩ := R.out.pm.mid.open_ (by omega)
      injection hv7 with hA7 hn7 hc7
      clear hn7 hc7
      subst hA7
      have HXL : Hid (∀ j u, all[k].cells[j]? = some u → wr.cell? ((⟨g7, o7 + k * 5, none⟩ : Addr).add j) = some u) := fun j u hj => by
        have hj5 : j < 5 := by
          have := (List.getElem?_eq_some_iff.1 hj).1
          simpa [Pg.cells] using this
        rw [add_at, Nat.add_assoc]
        exact hcs (k * 5 + j) u (by rw [pgs_get all k hlt j hj5]; exact hj)
      have HY1 := Lib.hid (HYES.out k hlt)
      have HN1 := Lib.hid (HNO.out k hlt)
      clear hcs
      generalize all[k] = x at *
      obtain ⟨⟨pl, sm⟩, xs, xf, xo⟩ := x
      unfold Pg.cells at HXL
      dsimp only at HXL HY1 HN1
      have HA : Hid (Blk (wr.alloc (.cells #[.int .i64 0, .string ⟨#[]⟩, .string ⟨#[]⟩, .bool false, .bool false] 73)) wr.heap.size 73 #[.int .i64 0, .string ⟨#[]⟩, .string ⟨#[]⟩, .bool false, .bool false]) := Blk.new wr 73 _
      obtain ⟨own4, m4, b4, z4, k4⟩ := R.out.pm.box 73 #[.int .i64 0, .string ⟨#[]⟩, .string ⟨#[]⟩, .bool false, .bool false] #[.int .i64 pl, .string sm, .string xs, .bool xf, .bool xo]
      have K4 := Lib.hid (R.out.keeps m4 k4)
      have B4 := Lib.hid b4
      have Z4 := Lib.hid z4
      have HGW : Hid (W.heap.size ≤ wr.heap.size) := R.out.pm.kp.size
      have HD1 : Hid (∀ g, (Value.slice (some ⟨g7, o7, none⟩) all.length c12).ownBlock = some g → g ∉ [wr.heap.size]) := fun g hg hm => by
        rw [List.mem_singleton] at hm
        obtain ⟨_, cur, hc⟩ := R.out.pm.mid.block g hg
        have := hc.lt
        omega
      have HD2 : Hid (∀ g, u19.ownBlock = some g → g ∉ [wr.heap.size]) := fun g hg hm => by
        rw [List.mem_singleton] at hm
        obtain ⟨_, cur, hc⟩ := R.out.mid.block g hg
        have := hc.lt
        omega
      have hlb := HLB.out k
      clear m4 b4 z4 k4 R
      cases xf
      · have hkl := HY1.out rfl
        unfold Pg.reset at hkl
        dsimp only at hkl
        have HKL := Lib.hid hkl
        have HB5 := Lib.hid ((B4.out.set_ 3 (.bool false)).set_ 4 (.bool false))
        obtain ⟨own5, k5⟩ := K4.out.turn HW0.out (S := [wr.heap.size]) (((Only.refl _ [wr.heap.size]).setCell (p := ⟨wr.heap.size, 3, none⟩) (List.mem_singleton.2 rfl) (.bool false)).setCell (p := ⟨wr.heap.size, 4, none⟩) (List.mem_singleton.2 rfl) (.bool false)) (fun y hy => by rw [List.mem_singleton] at hy; rw [hy]; exact ⟨Z4.out, HGW.out⟩) HD1.out HD2.out
        have K5 := Lib.hid k5
        clear k5 K4 hkl
        go_wp2_with (first
          | (refine wpList_load_at rfl 73 (.tmp 203) (by rfl) ⟨g7, o7 + k * 5, none⟩ (by rfl) [.int .i64 pl, .string sm, .string xs, .bool false, .bool xo] _ HXL.out Tryz.underlying73 rfl info73 ?_)
          | (refine wpList_store_row rfl 73 (.tmp 21) (.tmp 204) (by rfl) wr.heap.size #[.int .i64 pl, .string sm, .string xs, .bool false, .bool xo] (by rfl) (by rfl) 73 _ HA.out info73 (by rfl) (by simp [Value.oneCell']) ?_; generalize (wr.alloc (.cells #[.int .i64 0, .string ⟨#[]⟩, .string ⟨#[]⟩, .bool false, .bool false] 73)).setRow wr.heap.size #[.int .i64 pl, .string sm, .string xs, .bool false, .bool xo] = w4 at *; have e3 := B4.out.cell 3; have e4 := B4.out.cell 4; have f3 := B4.out.frozen 3; have f4 := B4.out.frozen 4)
          | (refine wpList_load_row rfl 73 (.tmp 21) (by rfl) wr.heap.size (by rfl) 73 #[.int .i64 pl, .string sm, .string xs, .bool false, .bool false] (0, 0) _ HB5.out Tryz.underlying73 rfl info73 ?_; generalize (w4.setCell ⟨wr.heap.size, 3, none⟩ (.bool false)).setCell ⟨wr.heap.size, 4, none⟩ (.bool false) = w5 at *)
          | (at_builtin; refine wpList_append_mid _ rfl (.tmp 222) (.tmp 224) 69 rfl W.heap.size 73 i0 (.agg #[.int .i64 0, .string ⟨#[]⟩, .string ⟨#[]⟩, .bool false, .bool false]) 5 48 Tryz.underlying69 hi0 hz0 hz1 hz2 rfl (by decide) _ _ _ rfl (K5.out.mid.alloc _) (some ⟨w5.heap.size, 0, none⟩) 1 1 [.int .i64 pl, .string sm, .string xs, .bool false, .bool false] rfl rfl (row_cells w5 _ 73) (by simp [Value.oneCell']) (by simp only [maxLen]; omega) (by omega) (Nat.le_trans K5.out.pm.kp.size (by simp)) ?_; intro v6 w6 hm6 hg6 ho6; have HM6 := Lib.hid hm6; have HG6 := Lib.hid hg6; have HO6 := Lib.hid ho6; clear hm6 hg6 ho6)
          | fail)
        obtain ⟨own6, k6⟩ := K5.out.push (x := ⟨⟨pl, sm⟩, xs, false, false⟩) HW0.out HM6.out HG6.out HO6.out
        have K6 := Lib.hid k6
        clear k6
        go_roundg (gk - 1)
        case measure => omega
        case rel => exact ⟨k + 1, own6, by omega, by go_num, by rw [HKL.out]; exact K6.out⟩
      · have hkl := HN1.out rfl
        go_wp2_with (first
          | (refine wpList_load_at rfl 73 (.tmp 203) (by rfl) ⟨g7, o7 + k * 5, none⟩ (by rfl) [.int .i64 pl, .string sm, .string xs, .bool true, .bool xo] _ HXL.out Tryz.underlying73 rfl info73 ?_)
          | (refine wpList_store_row rfl 73 (.tmp 21) (.tmp 204) (by rfl) wr.heap.size #[.int .i64 pl, .string sm, .string xs, .bool true, .bool xo] (by rfl) (by rfl) 73 _ HA.out info73 (by rfl) (by simp [Value.oneCell']) ?_; generalize (wr.alloc (.cells #[.int .i64 0, .string ⟨#[]⟩, .string ⟨#[]⟩, .bool false, .bool false] 73)).setRow wr.heap.size #[.int .i64 pl, .string sm, .string xs, .bool true, .bool xo] = w4 at *; have e3 := B4.out.cell 3; have e4 := B4.out.cell 4)
          | fail)
        go_roundg (gk - 1)
        case measure => omega
        case rel => exact ⟨k + 1, own4, by omega, by go_num, by rw [hkl]; exact K4.out⟩
    · obtain rfl : k = all.length := by omega
      have hin : decide ((all.length : Int) < (all.length : Int)) = false := by simp
      go_wp2_with fail
      refine (HOP.out wr own2 R.out.pm.sys).mono ?_
      rintro e w9 ⟨rfl, own9, h9, k9⟩
      have hmid := R.out.mid.keeps k9 R.out.z
      rw [HLL.out] at hmid
      have M9 : Hid (PM W w9 i st.undo own9 u19 ((all.filter fun x => !x.fresh).map Pg.reset)) := ⟨h9, R.out.pm.kp.trans k9, hmid, R.out.mid.z k9 R.out.z⟩
      clear h9 k9 hmid HOP R
      go_wp2_with fail
      apply HEXIT.out
      exact ⟨M9.out, HOK.out, HI.out.1, HI.out.2.trans HMS.out⟩

end Go.Proofs.YtimpjlnbbdfehaaGreatDoor
