import Derived.Test.YtimpjlnbbdfehaaGreatDoorGG
namespace Go.Proofs.YtimpjlnbbdfehaaGreatDoor
open Go.RowKit Go.Shelf Go.Lib Go.Sort
set_option linter.unusedVariables false
attribute [local go_sem ↓] shr_32_1 shl_32_1 shr_32_2 shl_32_2 shr_32_3 shl_32_3 shr_32_4 shl_32_4 shr_32_5 shl_32_5 shr_32_6 shl_32_6 shr_32_7 shl_32_7 shr_32_8 shl_32_8 shr_32_9 shl_32_9 shr_32_10 shl_32_10 shr_32_11 shl_32_11 shr_32_12 shl_32_12 shr_32_13 shl_32_13 shr_32_14 shl_32_14 shr_32_15 shl_32_15 shr_32_16 shl_32_16 shr_32_17 shl_32_17 shr_32_18 shl_32_18 shr_32_19 shl_32_19 shr_32_20 shl_32_20 shr_32_21 shl_32_21 shr_32_22 shl_32_22 shr_32_23 shl_32_23 shr_32_24 shl_32_24 shr_32_25 shl_32_25 shr_32_26 shl_32_26 shr_32_27 shl_32_27 shr_32_28 shl_32_28 shr_32_29 shl_32_29 shr_32_30 shl_32_30 shr_32_31 shl_32_31 shr_64_3 shl_64_3 shr_64_7 shl_64_7 shr_64_8 shl_64_8 shr_64_16 shl_64_16 shr_64_24 shl_64_24 shr_64_32 shl_64_32 shr_64_40 shl_64_40 shr_64_48 shl_64_48 shr_64_56 shl_64_56
attribute [local go_sem] add_u32 add_u64 and_u8 or_u8 xor_u8 and_u32 or_u32 xor_u32 and_u64 or_u64 xor_u64 conv_32_8 conv_64_8 conv_64_32 conv_8_32 conv_8_64 conv_32_64

/-! ### A new pager -/
theorem results_tmp4 {fn : Func} {a b c d : Tmp} (h : fn.results = #[.tmp a, .tmp b, .tmp c, .tmp d]) (tmps : Array Value) (P : Program) (w : World) :
    (results fn tmps).run P w = .ok (.tuple #[tmps.getD a undef, tmps.getD b undef, tmps.getD c undef, tmps.getD d undef]) w := by
  simp [results, h]
def masterB : ByteArray := ⟨#[48, 49, 50, 51, 52, 53, 54, 55, 56, 57, 97, 98, 99, 100, 101, 102, 48, 49, 50, 51, 52, 53, 54, 55, 56, 57, 97, 98, 99, 100, 101, 102]⟩
def mostN (m : Int) : Nat := (min (max m 1) 256).toNat
theorem mostN_int (m : Int) : ((mostN m : Nat) : Int) = min (max m 1) 256 := by unfold mostN; omega
/-- The boxes of a new pager. -/
def NewPager (w : World) (d v b s : Nat) (m : Int) (c : UInt64) (e : Ending) (w' : World) : Prop := ∃ p kb fb, e = .returned (.pointer (some ⟨p, 0, none⟩)) ∧ Below w.heap.size w w' ∧ w.heap.size ≤ p ∧ w.heap.size ≤ kb ∧ w.heap.size ≤ fb ∧ kb ≠ fb ∧
  Blk w' p 126 #[ptr d, ptr v, ptr b, ptr s, .int .i64 ((mostN m : Nat) : Int), .map (some kb), .slice none 0 0, .int .u32 0, .int .u64 (n64 c), .int .u32 0, .map (some fb), .slice none 0 0, .int .i64 0, .int .i64 0] ∧
  MapR Tryz.prog 54 Ref.v Value.string w' kb [] ∧ MapR Tryz.prog 3 ki Value.bool w' fb []
set_option maxHeartbeats 2000000 in
set_option maxRecDepth 100000 in
theorem pnew_ok (w : World) (d v b s : Nat) (m : Int) {vs : VS} (hv : DevC w v d vs) :
    Calls Tryz.prog 61 #[.pointer (some ⟨d, 0, none⟩), .pointer (some ⟨v, 0, none⟩), .pointer (some ⟨b, 0, none⟩), .pointer (some ⟨s, 0, none⟩), .int .i64 m] w (NewPager w d v b s m vs.ctr) := by
  have HC := Lib.hid (counter_ok (show DevC (w.alloc (.map #[] 0)) v d vs from ⟨hv.1.alloc _, hv.2⟩))
  have hmm := @run_makeMap Tryz.prog
  have HM := Lib.hid (mostN_int m)
  clear hv
  go_enter Tryz.func61, Tryz.ntmps61
  go_wp2_with ((with_reducible refine HC.out.mono ?_); rintro e w' ⟨rfl, rfl⟩)
  go_ret
  refine ⟨w.heap.size + 1 + 1, w.heap.size, w.heap.size + 1, by simp, ?_, by omega, by omega, by omega, by omega, ?_, ?_, ?_⟩
  · exact (((Below.refl w.heap.size w).alloc (Nat.le_refl _) _).alloc (by simp) _).alloc (by simp; omega) _
  · rw [HM.out]
    have e : ((w.alloc (.map #[] 0)).alloc (.map #[] 0)).heap.size = w.heap.size + 1 + 1 := by simp
    have h1 := Blk.new ((w.alloc (.map #[] 0)).alloc (.map #[] 0)) 126 #[ptr d, ptr v, ptr b, ptr s, .int .i64 (min (max m 1) 256), .map (some w.heap.size), .slice none 0 0, .int .u32 0, .int .u64 (n64 vs.ctr), .int .u32 0, .map (some (w.heap.size + 1)), .slice none 0 0, .int .i64 0, .int .i64 0]
    rw [e] at h1
    exact h1
  · exact (MapR.new Tryz.prog 54 Ref.v Value.string w).only (S := []) (((Only.refl _ _).alloc _).alloc _) (by simp)
  · have e : (w.alloc (.map #[] 0)).heap.size = w.heap.size + 1 := by simp
    have h2 := MapR.new Tryz.prog 3 ki Value.bool (w.alloc (.map #[] 0))
    rw [e] at h2
    exact h2.only (S := []) ((Only.refl _ _).alloc _) (by simp)
def PS.new (n : Nat) (m : Int) : PS := ⟨DS.new n, VS.new masterB, BkS.new, ⟨List.replicate n false, 2, 0⟩, mostN m, [], [], 0, 0, 0, [], [], 0, 0⟩
/-- What Made leaves. -/
def Made (n : Nat) (m : Int) (w : World) (e : Ending) (w' : World) : Prop := ∃ (i : Ids) (own : Nat → Nat), e = .returned (.tuple #[.pointer (some ⟨i.p, 0, none⟩), .pointer (some ⟨i.d, 0, none⟩), .pointer (some ⟨i.v, 0, none⟩), .pointer (some ⟨i.b, 0, none⟩)]) ∧
  SysC w' i (PS.new n m) own ∧ Below w.heap.size w w' ∧ ∀ k, k < w.heap.size → own k = 0
theorem masterB_size : masterB.size = 32 := rfl
theorem only_of_below {w w' : World} (h : Below w.heap.size w w') : Only w w' [] := Only.ofBelow h
set_option maxHeartbeats 4000000 in
set_option maxRecDepth 100000 in
theorem made_ok (n : Nat) (m : Int) (hn : 2 ≤ n) (hn2 : n ≤ 4096) (w : World) (hT : Salts w) :
    Calls Tryz.prog 16 #[.int .i64 (n : Int), .int .i64 m] w (Made n m w) := by
  have HD := Lib.hid (fun w hw => dnew_ok n (by omega) hn2 w hw)
  have HV := Lib.hid (fun d w hw => vnew_ok masterB masterB_size d w hw)
  have HB := Lib.hid (fun w hw => bnew_ok w hw)
  have HS := Lib.hid (fun w => sp_new_any (n : Int) 2 w (by omega) (by omega))
  have HP := Lib.hid (fun w d v b s hv => pnew_ok w d v b s m (vs := VS.new masterB) hv)
  have HT := Lib.hid hT
  have HMIN : Hid (min (max (2 : Int) 0) (max (n : Int) 0) = 2) := by show _ = _; omega
  have HTN : Hid ((n : Int).toNat = n) := Int.toNat_natCast n
  have HVN : Hid ((VS.new masterB).ctr = 0) := rfl
  have HNW : Hid (PS.new n m = ⟨DS.new n, VS.new masterB, BkS.new, ⟨List.replicate n false, 2, 0⟩, mostN m, [], [], 0, 0, 0, [], [], 0, 0⟩) := rfl
  clear hn hn2 hT
  go_enter Tryz.func16, Tryz.ntmps16
  go_wp2_with fail
  refine (HD.out w HT.out.1).mono ?_
  rintro e w1 ⟨d, rfl, Fd, hd, hb1, hFd⟩
  have h0 := HT.out.1
  have s1 := hb1.size
  have D1 := Lib.hid hd
  have B1 := Lib.hid hb1
  have FD := Lib.hid hFd
  have S1 := Lib.hid (Nat.lt_of_lt_of_le h0 s1)
  clear hd hb1 hFd h0 s1 HD
  unfold masterB at HV
  go_wp2_with fail
  refine (HV.out d w1 S1.out).mono ?_
  rintro e w2 ⟨v, rfl, hv, hb2, hvl⟩
  have V2 := Lib.hid hv
  have B2 := Lib.hid hb2
  have VL := Lib.hid hvl
  have S2 := Lib.hid (Nat.lt_of_lt_of_le S1.out hb2.size)
  clear hv hb2 hvl HV
  go_wp2_with fail
  refine (HB.out w2 S2.out).mono ?_
  rintro e w3 ⟨b, rfl, Fb, hbk, hb3, hFb⟩
  have K3 := Lib.hid hbk
  have B3 := Lib.hid hb3
  have FB := Lib.hid hFb
  have S3 := Lib.hid (Nat.lt_of_lt_of_le S2.out hb3.size)
  clear hbk hb3 hFb HB
  go_wp2_with fail
  refine (HS.out w3).mono ?_
  rintro e w4 ⟨s, sb, rfl, hsl, hsbl, hsp, ho4⟩
  have B4 : Hid (Below w3.heap.size w3 w4) := ⟨ho4.os, ho4.tape, ho4.output, ho4.size, fun k hk => ho4.block k hk (by simp)⟩
  have P4 := Lib.hid hsp
  have SL := Lib.hid hsl
  have SBL := Lib.hid hsbl
  clear hsp hsl hsbl ho4 HS
  have hv4 : DevC w4 v d (VS.new masterB) := ⟨(only_of_below B4.out).blk ((only_of_below B3.out).blk V2.out.1 (by simp)) (by simp), V2.out.2⟩
  have HPN := Lib.hid (HP.out w4 d v b s hv4)
  have V4 := Lib.hid hv4
  clear hv4 HP
  go_wp2_with fail
  refine HPN.out.mono ?_
  rintro e w5 ⟨p, kb, fb, rfl, hb5, hp, hkb, hfb, hne, hbox, hkept, hfresh⟩
  have B5 := Lib.hid hb5
  have X5 := Lib.hid hbox
  have Y5 := Lib.hid hkept
  have Z5 := Lib.hid hfresh
  have PL := Lib.hid hp
  have KL := Lib.hid hkb
  have FL := Lib.hid hfb
  have NE := Lib.hid hne
  clear hb5 hbox hkept hfresh hp hkb hfb hne HPN
  go_wp2_with fail
  refine bodyPost_ret (results_tmp4 rfl _ _ _) rfl ?_
  have l1 := B1.out.size
  have l2 := B2.out.size
  have l3 := B3.out.size
  have l4 := B4.out.size
  have l5 := B5.out.size
  have h0 := HT.out.1
  have o5 : Only w4 w5 [] := only_of_below B5.out
  have o4 : Only w3 w4 [] := only_of_below B4.out
  have o3 : Only w2 w3 [] := only_of_below B3.out
  have o2 : Only w1 w2 [] := only_of_below B2.out
  have oall : Only w w5 [] := (((only_of_below B1.out).trans o2).trans (o3.trans o4)).trans o5
  have hdd : DiskR w5 d (DS.new n) Fd := D1.out.only ((o2.trans (o3.trans o4)).trans o5) (by simp)
  have hbb : BookR w5 b BkS.new Fb := K3.out.only (o4.trans o5) (by simp)
  have hss := P4.out.only o5 (by simp) (by simp)
  rw [HMIN.out, HTN.out] at hss
  have hvv : DevC w5 v d (VS.new masterB) := ⟨o5.blk V4.out.1 (by simp), V4.out.2⟩
  have a1 := PL.out
  have a2 := KL.out
  have a3 := FL.out
  have a4 := SL.out
  have a5 := SBL.out
  have a6 := VL.out
  have a7 := V2.out.1.lt
  have a8 := P4.out.head.lt
  have a9 := P4.out.row.lt
  refine ⟨⟨p, d, v, b, s⟩, fun x => if x < w.heap.size then 0 else if x < w1.heap.size then 1 else if x < w2.heap.size then 2 else if x < w3.heap.size then 3 else if x < w4.heap.size then 4 else 5, rfl, ?_, ⟨oall.os, oall.tape, oall.output, oall.size, fun k hk => oall.block k hk (by simp)⟩, fun k hk => if_pos hk⟩
  rw [HNW.out]
  refine ⟨⟨Fd, hdd, fun x hx => ?_⟩, ⟨hvv, ?_⟩, ⟨Fb, hbb, fun x hx => ?_⟩, ⟨sb, hss, ?_, ?_, by show 0 < s; omega, by omega⟩, ⟨kb, fb, .slice none 0 0, .slice none 0 0, ⟨X5.out, Y5.out, Z5.out, Mid.nil _ _ _ _, Mid.nil _ _ _ _, by show 0 < p; omega, by omega, by omega, NE.out⟩, fun x hx => ?_⟩, HT.out.below ⟨oall.os, oall.tape, oall.output, oall.size, fun k hk => oall.block k hk (by simp)⟩, if_pos h0⟩
  · have q1 := FD.out x hx
    have q2 := D1.out.lt x hx
    try dsimp only
    (repeat' split) <;> omega
  · try dsimp only
    (repeat' split) <;> omega
  · have q1 := FB.out x hx
    have q2 := K3.out.lt x hx
    try dsimp only
    (repeat' split) <;> omega
  · try dsimp only
    (repeat' split) <;> omega
  · try dsimp only
    (repeat' split) <;> omega
  · have hx' : w4.heap.size ≤ x := by
      simp [pfp, Value.ownBlock] at hx
      rcases hx with rfl | rfl | rfl <;> omega
    try dsimp only
    (repeat' split) <;> omega

end Go.Proofs.YtimpjlnbbdfehaaGreatDoor
namespace Go.Proofs.YtimpjlnbbdfehaaGreatDoor
open Go.RowKit Go.Shelf Go.Lib Go.Sort
set_option linter.unusedVariables false
attribute [local go_sem ↓] shr_32_1 shl_32_1 shr_32_2 shl_32_2 shr_32_3 shl_32_3 shr_32_4 shl_32_4 shr_32_5 shl_32_5 shr_32_6 shl_32_6 shr_32_7 shl_32_7 shr_32_8 shl_32_8 shr_32_9 shl_32_9 shr_32_10 shl_32_10 shr_32_11 shl_32_11 shr_32_12 shl_32_12 shr_32_13 shl_32_13 shr_32_14 shl_32_14 shr_32_15 shl_32_15 shr_32_16 shl_32_16 shr_32_17 shl_32_17 shr_32_18 shl_32_18 shr_32_19 shl_32_19 shr_32_20 shl_32_20 shr_32_21 shl_32_21 shr_32_22 shl_32_22 shr_32_23 shl_32_23 shr_32_24 shl_32_24 shr_32_25 shl_32_25 shr_32_26 shl_32_26 shr_32_27 shl_32_27 shr_32_28 shl_32_28 shr_32_29 shl_32_29 shr_32_30 shl_32_30 shr_32_31 shl_32_31 shr_64_3 shl_64_3 shr_64_7 shl_64_7 shr_64_8 shl_64_8 shr_64_16 shl_64_16 shr_64_24 shl_64_24 shr_64_32 shl_64_32 shr_64_40 shl_64_40 shr_64_48 shl_64_48 shr_64_56 shl_64_56
attribute [local go_sem] add_u32 add_u64 and_u8 or_u8 xor_u8 and_u32 or_u32 xor_u32 and_u64 or_u64 xor_u64 conv_32_8 conv_64_8 conv_64_32 conv_8_32 conv_8_64 conv_32_64

theorem below_keeps {B : Nat} {w w1 w2 : World} {o1 o2 : Nat → Nat} (hb : Below B w w1) (hB : B ≤ w1.heap.size) (hz : ∀ k, k < B → o1 k = 0) (hk : Keeps w1 w2 o1 o2) : Below B w w2 :=
  ⟨hk.os.trans hb.os, hk.tape.trans hb.tape, hk.output.trans hb.output, Nat.le_trans hb.size hk.size, fun k h => (hk.block k (by omega) (hz k h)).trans (hb.block k h)⟩
theorem PS.new_okN (n : Nat) (m : Int) (h : n ≤ 100000) : (PS.new n m).okN 0 :=
  { dl := by simpa [PS.new, DS.new] using h
    drow := Nat.le_refl _
    dall := fun x hx => by rw [List.eq_of_mem_replicate hx]; exact zeroB_size _
    dnall := fun p hp => by cases hp
    acts := Nat.le_refl _
    key := by show masterB.size ≤ 900000; rw [masterB_size]; omega
    reads := Nat.le_refl _
    hits := Nat.le_refl _
    row := Nat.le_refl _
    rows := fun x hx => by cases hx
    old := Nat.le_refl _
    sl := by simp [PS.new, DS.new]
    sf := by simp [PS.new]
    m0 := by simp [PS.new]
    m1 := by simp [PS.new] }
def textB : ByteArray := ⟨#[116, 101, 120, 116]⟩
def awR : Ref := ⟨2, sumB (({ PS.new 6 2 with s := (PS.new 6 2).s.take 2 } : PS).block (2 : Nat) textB)⟩
theorem aw_free : (PS.new 6 2).s.free = some 2 := by rfl
theorem aw_write : ((PS.new 6 2).write textB).2.1 = awR ∧ mget ((PS.new 6 2).write textB).1.kept awR = some textB ∧ ((PS.new 6 2).write textB).1.hits = 0 := by
  have hk : ((PS.new 6 2).write textB).1 = ({ ({ PS.new 6 2 with s := (PS.new 6 2).s.take 2 } : PS).lay (2 : Nat) textB with fresh := mput (PS.new 6 2).fresh (2 : Nat) true } : PS).keep1 awR textB := by
    unfold PS.write
    rw [aw_free]
    exact PS.keep_new1 (st := { ({ PS.new 6 2 with s := (PS.new 6 2).s.take 2 } : PS).lay (2 : Nat) textB with fresh := mput (PS.new 6 2).fresh (2 : Nat) true }) (r := awR) (s := textB) rfl (by show 0 + 1 ≤ mostN 2; decide)
  refine ⟨?_, ?_, ?_⟩
  · unfold PS.write
    rw [aw_free]
    rfl
  · rw [hk]
    show mget (mput [] awR textB) awR = some textB
    rw [mget_mput, if_pos rfl]
  · rw [hk]; rfl
set_option maxHeartbeats 4000000 in
set_option maxRecDepth 100000 in
theorem aw_ok (w : World) (hT : Salts w) : Calls Tryz.prog 21 #[] w fun e w' => e = .returned (.bool true) ∧ Below w.heap.size w w' := by
  have HM : Hid (Calls Tryz.prog 16 #[.int .i64 6, .int .i64 2] w (Made 6 2 w)) := made_ok 6 2 (by omega) (by omega) w hT
  have HW := Lib.hid (fun w1 i own (h1 : SysC w1 i (PS.new 6 2) own) => write_some h1 (PS.new_okN 6 2 (by omega)) (by omega) aw_free textB (by decide))
  obtain ⟨a1, a2, a3⟩ := aw_write
  have hI : I64 awR.place := ⟨by decide, by decide⟩
  have hz : awR.sum.size = 32 := sumB_size _
  have HR := Lib.hid (fun w1 i own (h1 : SysC w1 i ((PS.new 6 2).write textB).1 own) => read_hit h1 (by rw [a3]; omega) awR ⟨hI, by rw [hz]; simp [maxLen]⟩ hz textB a2)
  have hp : awR.place = 2 := rfl
  rw [a1] at HW
  unfold Ref.v Ref.cells at HW
  rw [hp] at HW HR
  generalize awR.sum = sx at *
  have HS : Hid (0 < w.heap.size) := hT.1
  unfold textB at HW HR
  clear hT a1 a2 a3 hI hz hp
  go_enter Tryz.func21, Tryz.ntmps21
  go_wp2_with fail
  refine HM.out.mono ?_
  rintro e w1 ⟨i, own1, rfl, h1, hb1, hz1⟩
  have H1 := Lib.hid h1
  have B1 := Lib.hid hb1
  have Z1 := Lib.hid hz1
  clear h1 hb1 hz1 HM
  go_wp2_with fail
  refine (HW.out _ _ _ H1.out).mono ?_
  rintro e w2 ⟨rfl, own2, h2, k2⟩
  have H2 := Lib.hid h2
  have K2 := Lib.hid k2
  have HA : Hid (Blk (w2.alloc (.cells #[.int .i64 0, .string ⟨#[]⟩] 54)) w2.heap.size 54 #[.int .i64 0, .string ⟨#[]⟩]) := Blk.new w2 54 _
  obtain ⟨own3, h3, k3, b3, z3⟩ := one_box h2 54 #[.int .i64 0, .string ⟨#[]⟩] #[.int .i64 2, .string sx]
  have H3 := Lib.hid h3
  have K3 := Lib.hid (k2.trans k3)
  have B3 := Lib.hid b3
  have Z3 := Lib.hid z3
  clear h2 k2 h3 k3 b3 z3 HW
  go_wp2_with (first
    | (refine wpList_store_row rfl 54 (.tmp 5) (.tmp 18) (by rfl) w2.heap.size #[.int .i64 2, .string sx] (by rfl) (by rfl) 54 _ HA.out info54 (by rfl) (by simp [Value.oneCell']) ?_; generalize (w2.alloc (.cells #[.int .i64 0, .string ⟨#[]⟩] 54)).setRow w2.heap.size #[.int .i64 2, .string sx] = w3 at *)
    | (refine wpList_load_row rfl 54 (.tmp 5) (by rfl) w2.heap.size (by rfl) 54 #[.int .i64 2, .string sx] (0, 0) _ B3.out Tryz.underlying54 rfl info54 ?_)
    | fail)
  refine (HR.out _ _ _ H3.out).mono ?_
  rintro e w4 ⟨rfl, own4, h4, k4⟩
  have K4 := Lib.hid (K3.out.trans k4)
  have b4 := (k4.blk B3.out Z3.out).cell 0
  clear h4 k4 HR
  go_wp2_with fail
  go_ret
  exact ⟨rfl, below_keeps B1.out B1.out.size Z1.out K4.out⟩

end Go.Proofs.YtimpjlnbbdfehaaGreatDoor
namespace Go.Proofs.YtimpjlnbbdfehaaGreatDoor
open Go.RowKit Go.Shelf Go.Lib Go.Sort
set_option linter.unusedVariables false
attribute [local go_sem ↓] shr_32_1 shl_32_1 shr_32_2 shl_32_2 shr_32_3 shl_32_3 shr_32_4 shl_32_4 shr_32_5 shl_32_5 shr_32_6 shl_32_6 shr_32_7 shl_32_7 shr_32_8 shl_32_8 shr_32_9 shl_32_9 shr_32_10 shl_32_10 shr_32_11 shl_32_11 shr_32_12 shl_32_12 shr_32_13 shl_32_13 shr_32_14 shl_32_14 shr_32_15 shl_32_15 shr_32_16 shl_32_16 shr_32_17 shl_32_17 shr_32_18 shl_32_18 shr_32_19 shl_32_19 shr_32_20 shl_32_20 shr_32_21 shl_32_21 shr_32_22 shl_32_22 shr_32_23 shl_32_23 shr_32_24 shl_32_24 shr_32_25 shl_32_25 shr_32_26 shl_32_26 shr_32_27 shl_32_27 shr_32_28 shl_32_28 shr_32_29 shl_32_29 shr_32_30 shl_32_30 shr_32_31 shl_32_31 shr_64_3 shl_64_3 shr_64_7 shl_64_7 shr_64_8 shl_64_8 shr_64_16 shl_64_16 shr_64_24 shl_64_24 shr_64_32 shl_64_32 shr_64_40 shl_64_40 shr_64_48 shl_64_48 shr_64_56 shl_64_56
attribute [local go_sem] add_u32 add_u64 and_u8 or_u8 xor_u8 and_u32 or_u32 xor_u32 and_u64 or_u64 xor_u64 conv_32_8 conv_64_8 conv_64_32 conv_8_32 conv_8_64 conv_32_64

/-! ### No pager -/
def Leaves (w : World) (v : Value) (e : Ending) (w' : World) : Prop := e = .returned v ∧ Below w.heap.size w w'
set_option maxHeartbeats 1000000 in
theorem epoch_nil (x : Int) (w : World) : Calls Tryz.prog 24 #[.pointer none, .int .u32 x] w (Leaves w (.tuple #[])) := by
  go_enter Tryz.func24, Tryz.ntmps24
  go_wp2
  go_end0
  exact ⟨rfl, Below.refl _ _⟩
set_option maxHeartbeats 1000000 in
set_option maxRecDepth 100000 in
theorem drop_nil (a : Int) (s : ByteArray) (w : World) : Calls Tryz.prog 32 #[.pointer none, .agg #[.int .i64 a, .string s]] w (Leaves w (.tuple #[])) := by
  go_enter Tryz.func32, Tryz.ntmps32
  go_wp2
  refine bodyPost_ret (results_none rfl _ _ _) rfl ?_
  exact ⟨rfl, (Below.refl _ _).alloc (Nat.le_refl _) _⟩
set_option maxHeartbeats 1000000 in
set_option maxRecDepth 100000 in
theorem done_nil (w : World) : Calls Tryz.prog 33 #[.pointer none] w (Leaves w (.tuple #[])) := by
  go_enter Tryz.func33, Tryz.ntmps33
  go_wp2
  refine bodyPost_ret (results_none rfl _ _ _) rfl ?_
  exact ⟨rfl, Below.refl _ _⟩
set_option maxHeartbeats 1000000 in
set_option maxRecDepth 100000 in
theorem undo_nil (w : World) : Calls Tryz.prog 34 #[.pointer none] w (Leaves w (.tuple #[])) := by
  go_enter Tryz.func34, Tryz.ntmps34
  go_wp2
  refine bodyPost_ret (results_none rfl _ _ _) rfl ?_
  exact ⟨rfl, (Below.refl _ _).alloc (Nat.le_refl _) _⟩
set_option maxHeartbeats 1000000 in
set_option maxRecDepth 100000 in
theorem lay_nil (n : Int) (s : ByteArray) (w : World) : Calls Tryz.prog 17 #[.pointer none, .int .i64 n, .string s] w (Leaves w (.tuple #[.string ⟨#[]⟩, .string ⟨#[]⟩, .int .i64 1])) := by
  go_enter Tryz.func17, Tryz.ntmps17
  go_wp2
  go_ret3
  exact ⟨rfl, Below.refl _ _⟩
set_option maxHeartbeats 1000000 in
set_option maxRecDepth 100000 in
theorem fetch_nil (n : Int) (s : ByteArray) (w : World) : Calls Tryz.prog 19 #[.pointer none, .int .i64 n, .string s] w (Leaves w (.tuple #[.agg #[.int .u32 0, .int .u64 0, .int .u32 0], .string ⟨#[]⟩, .string ⟨#[]⟩, .int .i64 1])) := by
  have HA : Hid (Blk (w.alloc (.cells #[.int .u32 0, .int .u64 0, .int .u32 0] 36)) w.heap.size 36 #[.int .u32 0, .int .u64 0, .int .u32 0]) := Blk.new w 36 _
  go_enter Tryz.func19, Tryz.ntmps19
  go_wp2_with (refine wpList_store_row rfl 36 (.tmp 6) (.tmp 16) (by rfl) w.heap.size #[.int .u32 0, .int .u64 0, .int .u32 0] (by rfl) (by rfl) 36 _ HA.out info36 (by rfl) (by simp [Value.oneCell']) ?_)
  refine bodyPost_ret (results_cell_tmp3 (fn := Tryz.f19) rfl _ _ w.heap.size #[.int .u32 0, .int .u64 0, .int .u32 0] (by rfl) (run_loadVar_row _ _ _ _ _ _ _ (HA.out.row _) Tryz.underlying36 rfl info36)) rfl ?_
  exact ⟨rfl, below_setRow ((Below.refl _ _).alloc (Nat.le_refl _) _) (Nat.le_refl _) _⟩
set_option maxHeartbeats 1000000 in
set_option maxRecDepth 100000 in
theorem read_nil (a : Int) (s : ByteArray) (w : World) : Calls Tryz.prog 30 #[.pointer none, .agg #[.int .i64 a, .string s]] w (Leaves w (.tuple #[.string ⟨#[]⟩, .int .i64 1])) := by
  go_enter Tryz.func30, Tryz.ntmps30
  go_wp2
  go_ret2
  exact ⟨rfl, (Below.refl _ _).alloc (Nat.le_refl _) _⟩
set_option maxHeartbeats 1000000 in
set_option maxRecDepth 100000 in
theorem write_nil (t : ByteArray) (w : World) : Calls Tryz.prog 28 #[.pointer none, .string t] w (Leaves w (.tuple #[.agg #[.int .i64 (-1), .string ⟨#[]⟩], .int .i64 1])) := by
  have HA : Hid (Blk ((w.alloc (.cells #[.int .i64 0, .string ⟨#[]⟩] 54)).alloc (.cells #[.int .i64 0, .string ⟨#[]⟩] 54)) (w.heap.size + 1) 54 #[.int .i64 0, .string ⟨#[]⟩]) := blk_new1 w _ 54 _
  have H1 : Hid (Blk (((w.alloc (.cells #[.int .i64 0, .string ⟨#[]⟩] 54)).alloc (.cells #[.int .i64 0, .string ⟨#[]⟩] 54)).setRow (w.heap.size + 1) #[.int .i64 (-1), .string ⟨#[]⟩]) (w.heap.size + 1) 54 #[.int .i64 (-1), .string ⟨#[]⟩]) := HA.out.row _
  have H0 : Hid (Blk (((w.alloc (.cells #[.int .i64 0, .string ⟨#[]⟩] 54)).alloc (.cells #[.int .i64 0, .string ⟨#[]⟩] 54)).setRow (w.heap.size + 1) #[.int .i64 (-1), .string ⟨#[]⟩]) w.heap.size 54 #[.int .i64 0, .string ⟨#[]⟩]) := ((Blk.new w 54 _).alloc _).farRow (by omega) _
  have HB : Hid (Below w.heap.size w (((w.alloc (.cells #[.int .i64 0, .string ⟨#[]⟩] 54)).alloc (.cells #[.int .i64 0, .string ⟨#[]⟩] 54)).setRow (w.heap.size + 1) #[.int .i64 (-1), .string ⟨#[]⟩])) := below_setRow (((Below.refl _ _).alloc (Nat.le_refl _) _).alloc (by simp) _) (by omega) _
  go_enter Tryz.func28, Tryz.ntmps28
  go_wp2_with (first
    | (refine wpList_store_row rfl 54 (.tmp 6) (.tmp 12) (by rfl) (w.heap.size + 1) #[.int .i64 (-1), .string ⟨#[]⟩] (by rfl) (by rfl) 54 _ HA.out info54 (by rfl) (by simp [Value.oneCell']) ?_; generalize ((w.alloc (.cells #[.int .i64 0, .string ⟨#[]⟩] 54)).alloc (.cells #[.int .i64 0, .string ⟨#[]⟩] 54)).setRow (w.heap.size + 1) #[.int .i64 (-1), .string ⟨#[]⟩] = w1 at *)
    | (refine wpList_load_row rfl 54 (.tmp 6) (by rfl) (w.heap.size + 1) (by rfl) 54 #[.int .i64 (-1), .string ⟨#[]⟩] (0, 0) _ H1.out Tryz.underlying54 rfl info54 ?_)
    | (refine wpList_store_row rfl 54 (.tmp 4) (.tmp 20) (by rfl) w.heap.size #[.int .i64 (-1), .string ⟨#[]⟩] (by rfl) (by rfl) 54 _ H0.out info54 (by rfl) (by simp [Value.oneCell']) ?_))
  refine bodyPost_ret (results_cell_tmp (fn := Tryz.f28) rfl _ _ w.heap.size #[.int .i64 (-1), .string ⟨#[]⟩] (by rfl) (run_loadVar_row _ _ _ _ _ _ _ (H0.out.row _) Tryz.underlying54 rfl info54)) rfl ?_
  exact ⟨rfl, below_setRow HB.out (Nat.le_refl _) _⟩
set_option maxHeartbeats 1000000 in
set_option maxRecDepth 100000 in
theorem kept_nil (w : World) : Calls Tryz.prog 35 #[.pointer none] w (Leaves w (.tuple #[.int .i64 0, .int .i64 0, .int .i64 0])) := by
  go_enter Tryz.func35, Tryz.ntmps35
  go_wp2
  go_ret3
  exact ⟨rfl, Below.refl _ _⟩
set_option maxHeartbeats 1000000 in
theorem space_nil (w : World) : Calls Tryz.prog 36 #[.pointer none] w (Leaves w (.pointer none)) := by
  go_enter Tryz.func36, Tryz.ntmps36
  go_wp2
  go_ret
  exact ⟨rfl, Below.refl _ _⟩

end Go.Proofs.YtimpjlnbbdfehaaGreatDoor
namespace Go.Proofs.YtimpjlnbbdfehaaGreatDoor
open Go.RowKit Go.Shelf Go.Lib Go.Sort
set_option linter.unusedVariables false
attribute [local go_sem ↓] shr_32_1 shl_32_1 shr_32_2 shl_32_2 shr_32_3 shl_32_3 shr_32_4 shl_32_4 shr_32_5 shl_32_5 shr_32_6 shl_32_6 shr_32_7 shl_32_7 shr_32_8 shl_32_8 shr_32_9 shl_32_9 shr_32_10 shl_32_10 shr_32_11 shl_32_11 shr_32_12 shl_32_12 shr_32_13 shl_32_13 shr_32_14 shl_32_14 shr_32_15 shl_32_15 shr_32_16 shl_32_16 shr_32_17 shl_32_17 shr_32_18 shl_32_18 shr_32_19 shl_32_19 shr_32_20 shl_32_20 shr_32_21 shl_32_21 shr_32_22 shl_32_22 shr_32_23 shl_32_23 shr_32_24 shl_32_24 shr_32_25 shl_32_25 shr_32_26 shl_32_26 shr_32_27 shl_32_27 shr_32_28 shl_32_28 shr_32_29 shl_32_29 shr_32_30 shl_32_30 shr_32_31 shl_32_31 shr_64_3 shl_64_3 shr_64_7 shl_64_7 shr_64_8 shl_64_8 shr_64_16 shl_64_16 shr_64_24 shl_64_24 shr_64_32 shl_64_32 shr_64_40 shl_64_40 shr_64_48 shl_64_48 shr_64_56 shl_64_56
attribute [local go_sem] add_u32 add_u64 and_u8 or_u8 xor_u8 and_u32 or_u32 xor_u32 and_u64 or_u64 xor_u64 conv_32_8 conv_64_8 conv_64_32 conv_8_32 conv_8_64 conv_32_64

section
variable {w : World} {i : Ids} {st : PS} {own : Nat → Nat}
set_option maxHeartbeats 1000000 in
set_option maxRecDepth 100000 in
theorem epoch_ok (h : SysC w i st own) (e : UInt32) : Calls Tryz.prog 24 #[.pointer (some ⟨i.p, 0, none⟩), .int .u32 (n32 e)] w (PT i w own { st with epoch := e } (.tuple #[])) := by
  obtain ⟨kb, fb, rv, ov, hp, hO⟩ := h.pg
  have c7 := hp.box.cell 7
  have f7 := hp.box.frozen 7
  have HF := Lib.hid (h.box_step hp hO { st with epoch := e } rfl rfl rfl rfl rfl rfl rfl rfl (hp.box.set_ 7 _) ((Only.refl w _).setCell (by simp) (.int .u32 (n32 e))))
  clear h hp hO
  go_enter Tryz.func24, Tryz.ntmps24
  go_wp2
  go_end0
  exact ⟨rfl, HF.out⟩
theorem pbump_ok (h : SysC w i st own) (ha : st.d.acts ≤ 1000000) (r : ByteArray) (hr : r.size = 33) :
    Calls Tryz.prog 25 #[.pointer (some ⟨i.v, 0, none⟩), .string r] w (PT i w own { st with v := st.v.bump r, d := st.d.act } (.int .i64 0)) := by
  obtain ⟨F, ⟨sb, nb, rv, hd, rfl⟩, hO⟩ := h.disk
  refine (bump_ok h.dev.1 hd ha r hr).mono fun e w' ⟨he, hv, hd', ho⟩ => ⟨he, ?_⟩
  have hod : own i.d = 1 := hO _ (by simp [dfp])
  have hn : ∀ x m, own x = m → 3 ≤ m → x ∉ [i.v, i.d] := fun x m e hm hx => by
    simp at hx
    rcases hx with rfl | rfl
    · have := h.dev.2; omega
    · omega
  have hnz : ∀ x ∈ [i.v, i.d], own x ≠ 0 := fun x hx => by
    simp at hx
    rcases hx with rfl | rfl
    · rw [h.dev.2]; decide
    · rw [hod]; decide
  refine ⟨own, ⟨⟨_, ⟨sb, nb, rv, hd', rfl⟩, hO⟩, ⟨hv, h.dev.2⟩, ?_, ?_, ?_, h.salts.of_own ho (fun hm => hnz 0 hm h.zero), h.zero⟩, Keeps.of_only ho hnz⟩
  · obtain ⟨G, hG, hO3⟩ := h.book
    exact ⟨G, hG.only ho (fun x hx => hn x 3 (hO3 x hx) (by omega)), hO3⟩
  · obtain ⟨s, hs, h1, h2, h3, h4⟩ := h.space
    exact ⟨s, hs.only ho (hn _ 4 h1 (by omega)) (hn _ 4 h2 (by omega)), h1, h2, h3, h4⟩
  · obtain ⟨kb, fb, rv2, ov, hp, hO5⟩ := h.pg
    have hp' := hp.only ho (fun x hx => hn x 5 (hO5 x hx) (by omega))
    exact ⟨kb, fb, rv2, ov, ⟨hp'.box, hp'.kept, hp'.fresh, hp'.row, hp'.old, hp'.p1, hp'.p2, hp'.p3, hp'.ne⟩, hO5⟩
theorem phd_ok (h : SysC w i st own) (s : ByteArray) :
    Calls Tryz.prog 26 #[.string s] w (PT i w own st (.tuple #[(headF s).1.v, .int .i64 (headF s).2])) :=
  (head_ok s w).mono fun e w' ⟨he, hb⟩ => ⟨he, _, h.none_step (Only.ofBelow hb)⟩
theorem pcounter_ok (h : SysC w i st own) : Calls Tryz.prog 27 #[.pointer (some ⟨i.v, 0, none⟩)] w fun e w' => e = .returned (.int .u64 (n64 st.v.ctr)) ∧ w = w' := counter_ok h.dev.1
end
/-! ### What is behind so many calls -/
theorem PS.lay_okN {st : PS} {n : Nat} (ok : st.okN n) (k : Int) (t : ByteArray) (ht : t.size ≤ 462) : (st.lay k t).okN (n + 1) :=
  { dl := ok.dl
    drow := by
      show (st.d.write k _).row.length ≤ st.d.acts + 1
      unfold DS.write
      have := ok.drow
      dsimp only
      split
      · omega
      · rw [List.length_append]; simp; omega
    dall := ok.dall
    dnall := fun p hp => by
      rcases mput_mem hp with rfl | hp
      · exact blockP_size _ _ _ _ ht
      · exact ok.dnall p hp
    acts := by have := ok.acts; show st.d.acts + 1 ≤ n + 1; omega
    key := ok.key
    reads := by have := ok.reads; show st.reads ≤ n + 1; omega
    hits := by have := ok.hits; show st.hits ≤ n + 1; omega
    row := by have := ok.row; show st.row.length ≤ n + 1; omega
    rows := ok.rows
    old := by have := ok.old; show st.old.length ≤ n + 1; omega
    sl := ok.sl
    sf := ok.sf
    m0 := ok.m0
    m1 := by have := ok.m1; show st.s.many ≤ ((n + 1 : Nat) : Int); omega }
theorem PS.bump_okN {st : PS} {n : Nat} (ok : st.okN n) (r : ByteArray) : ({ st with v := st.v.bump r, d := st.d.act } : PS).okN (n + 1) :=
  { dl := ok.dl
    drow := by have := ok.drow; show st.d.row.length ≤ st.d.acts + 1; omega
    dall := ok.dall
    dnall := ok.dnall
    acts := by have := ok.acts; show st.d.acts + 1 ≤ n + 1; omega
    key := ok.key
    reads := by have := ok.reads; show st.reads ≤ n + 1; omega
    hits := by have := ok.hits; show st.hits ≤ n + 1; omega
    row := by have := ok.row; show st.row.length ≤ n + 1; omega
    rows := ok.rows
    old := by have := ok.old; show st.old.length ≤ n + 1; omega
    sl := ok.sl
    sf := ok.sf
    m0 := ok.m0
    m1 := by have := ok.m1; show st.s.many ≤ ((n + 1 : Nat) : Int); omega }
theorem PS.epoch_okN {st : PS} {n : Nat} (ok : st.okN n) (e : UInt32) : ({ st with epoch := e } : PS).okN (n + 1) :=
  { dl := ok.dl
    drow := ok.drow
    dall := ok.dall
    dnall := ok.dnall
    acts := by have := ok.acts; show st.d.acts ≤ n + 1; omega
    key := ok.key
    reads := by have := ok.reads; show st.reads ≤ n + 1; omega
    hits := by have := ok.hits; show st.hits ≤ n + 1; omega
    row := by have := ok.row; show st.row.length ≤ n + 1; omega
    rows := ok.rows
    old := by have := ok.old; show st.old.length ≤ n + 1; omega
    sl := ok.sl
    sf := ok.sf
    m0 := ok.m0
    m1 := by have := ok.m1; show st.s.many ≤ ((n + 1 : Nat) : Int); omega }
theorem DS.get_write (s : DS) (k : Nat) (x : ByteArray) : (s.write (k : Int) x).get k = x := by
  unfold DS.get DS.write
  dsimp only
  rw [mget_mput, if_pos rfl]
  rfl
/-! ### Heads that were sealed -/
def HdOk (st : PS) (h : Hd) : Prop := h.dev.toNat < st.v.ctr.toNat ∨ h.dev = st.v.ctr ∧ st.at_ = st.v.ctr ∧ h.num.toNat ≤ st.index.toNat
structure HeadsI (st : PS) (hs : List Hd) (n : Nat) : Prop where
  all : ∀ h ∈ hs, HdOk st h
  ctr : st.v.ctr.toNat ≤ n
  ix : st.index.toNat ≤ n
theorem u64_succ {a : UInt64} (h : a.toNat ≤ 1000) : (a + 1).toNat = a.toNat + 1 := by
  rw [UInt64.toNat_add]; show (a.toNat + 1) % 2 ^ 64 = _; omega
theorem u32_succ {a : UInt32} (h : a.toNat ≤ 1000) : (a + 1).toNat = a.toNat + 1 := by
  rw [UInt32.toNat_add]; show (a.toNat + 1) % 2 ^ 32 = _; omega
theorem heads_bump {st : PS} {hs : List Hd} {n : Nat} (h : HeadsI st hs n) (hn : n ≤ 1000) (r : ByteArray) : HeadsI { st with v := st.v.bump r, d := st.d.act } hs (n + 1) := by
  have e : (st.v.bump r).ctr.toNat = st.v.ctr.toNat + 1 := u64_succ (Nat.le_trans h.ctr hn)
  refine ⟨fun x hx => .inl ?_, ?_, ?_⟩
  · show x.dev.toNat < (st.v.bump r).ctr.toNat
    rcases h.all x hx with h1 | ⟨h1, _, _⟩
    · omega
    · rw [h1]; omega
  · show (st.v.bump r).ctr.toNat ≤ n + 1
    have := h.ctr; omega
  · have := h.ix; show st.index.toNat ≤ n + 1; omega
theorem heads_epoch {st : PS} {hs : List Hd} {n : Nat} (h : HeadsI st hs n) (e : UInt32) : HeadsI { st with epoch := e } hs (n + 1) :=
  ⟨h.all, by have := h.ctr; show st.v.ctr.toNat ≤ n + 1; omega, by have := h.ix; show st.index.toNat ≤ n + 1; omega⟩
theorem heads_new {st : PS} {hs : List Hd} {n : Nat} (h : HeadsI st hs n) (hn : n ≤ 1000) : ∀ x ∈ hs, x ≠ st.hd := by
  intro x hx e
  have ed : x.dev = st.v.ctr := by rw [e]; rfl
  have en : x.num = st.head.index := by rw [e]; rfl
  rcases h.all x hx with h1 | ⟨_, h2, h3⟩
  · rw [ed] at h1; omega
  · have e2 : st.head.index = st.index + 1 := by show (if st.v.ctr = st.at_ then st.index else 0) + 1 = _; rw [if_pos h2.symm]
    rw [en, e2, u32_succ (Nat.le_trans h.ix hn)] at h3
    omega
theorem heads_lay {st : PS} {hs : List Hd} {n : Nat} (h : HeadsI st hs n) (hn : n ≤ 1000) (k : Int) (t : ByteArray) : HeadsI (st.lay k t) (hs ++ [st.hd]) (n + 1) := by
  have hix : st.head.index.toNat ≤ n + 1 ∧ (st.v.ctr = st.at_ → st.index.toNat ≤ st.head.index.toNat) := by
    by_cases hc : st.v.ctr = st.at_
    · have e2 : st.head.index = st.index + 1 := by show (if st.v.ctr = st.at_ then st.index else 0) + 1 = _; rw [if_pos hc]
      rw [e2, u32_succ (Nat.le_trans h.ix hn)]
      have := h.ix
      exact ⟨by omega, fun _ => by omega⟩
    · have e2 : st.head.index = 0 + 1 := by show (if st.v.ctr = st.at_ then st.index else 0) + 1 = _; rw [if_neg hc]
      rw [e2]
      exact ⟨by show 1 ≤ n + 1; omega, fun hh => absurd hh hc⟩
  refine ⟨fun x hx => ?_, by have := h.ctr; show st.v.ctr.toNat ≤ n + 1; omega, hix.1⟩
  rcases List.mem_append.1 hx with hx | hx
  · rcases h.all x hx with h1 | ⟨h1, h2, h3⟩
    · exact .inl h1
    · exact .inr ⟨h1, rfl, Nat.le_trans h3 (hix.2 h2.symm)⟩
  · rw [List.mem_singleton] at hx
    subst hx
    exact .inr ⟨rfl, rfl, Nat.le_refl _⟩

end Go.Proofs.YtimpjlnbbdfehaaGreatDoor
