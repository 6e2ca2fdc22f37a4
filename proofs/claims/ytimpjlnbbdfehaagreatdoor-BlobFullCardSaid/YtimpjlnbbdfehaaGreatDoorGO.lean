import Derived.Test.YtimpjlnbbdfehaaGreatDoorGN
namespace Go.Proofs.YtimpjlnbbdfehaaGreatDoor
open Go.RowKit Go.Shelf Go.Lib Go.Sort
set_option linter.unusedVariables false
attribute [local go_sem ↓] shr_32_1 shl_32_1 shr_32_2 shl_32_2 shr_32_3 shl_32_3 shr_32_4 shl_32_4 shr_32_5 shl_32_5 shr_32_6 shl_32_6 shr_32_7 shl_32_7 shr_32_8 shl_32_8 shr_32_9 shl_32_9 shr_32_10 shl_32_10 shr_32_11 shl_32_11 shr_32_12 shl_32_12 shr_32_13 shl_32_13 shr_32_14 shl_32_14 shr_32_15 shl_32_15 shr_32_16 shl_32_16 shr_32_17 shl_32_17 shr_32_18 shl_32_18 shr_32_19 shl_32_19 shr_32_20 shl_32_20 shr_32_21 shl_32_21 shr_32_22 shl_32_22 shr_32_23 shl_32_23 shr_32_24 shl_32_24 shr_32_25 shl_32_25 shr_32_26 shl_32_26 shr_32_27 shl_32_27 shr_32_28 shl_32_28 shr_32_29 shl_32_29 shr_32_30 shl_32_30 shr_32_31 shl_32_31 shr_64_3 shl_64_3 shr_64_7 shl_64_7 shr_64_8 shl_64_8 shr_64_16 shl_64_16 shr_64_24 shl_64_24 shr_64_32 shl_64_32 shr_64_40 shl_64_40 shr_64_48 shl_64_48 shr_64_56 shl_64_56
attribute [local go_sem] add_u32 add_u64 and_u8 or_u8 xor_u8 and_u32 or_u32 xor_u32 and_u64 or_u64 xor_u64 conv_32_8 conv_64_8 conv_64_32 conv_8_32 conv_8_64 conv_32_64

/-! ### What a page's text may be -/
theorem bget_small (m : ByteArray) (place : Int) (s : ByteArray) : (bgetF m place s).2.1.size ≤ 462 := by
  unfold bgetF
  split
  · exact Nat.zero_le _
  · split
    · exact Nat.zero_le _
    · dsimp only
      split
      · exact Nat.zero_le _
      · split
        · exact Nat.zero_le _
        · rw [ByteArray.size_extract]; omega
def PS.small (st : PS) : Prop := ∀ p ∈ st.kept, p.2.size ≤ 462
theorem PS.fetV_small (st : PS) (n : Int) (sum : ByteArray) : (st.fetV n sum).2.1.size ≤ 462 := by
  unfold PS.fetV
  split
  · unfold PS.fetchV
    split
    · exact Nat.zero_le _
    · split
      · exact Nat.zero_le _
      · exact bget_small _ _ _
  · exact Nat.zero_le _
theorem PS.fetS_kept (st : PS) (n : Int) (sum : ByteArray) : (st.fetS n sum).kept = st.kept := by
  unfold PS.fetS PS.fetchS
  split
  · split <;> rfl
  · rfl
theorem PS.keep_small {st : PS} (h : st.small) (r : Ref) (t : ByteArray) (ht : t.size ≤ 462) : (st.keep r t).small := by
  have hp : ∀ p ∈ mput st.kept r t, p.2.size ≤ 462 := fun p hp => by
    rcases mput_mem hp with rfl | hp
    · exact ht
    · exact h p hp
  unfold PS.keep
  split
  · exact h
  · split
    · exact hp
    · exact fun p hq => hp p ((mdel_sub _ _).subset hq)
theorem PS.read_small {st : PS} (h : st.small) (r : Ref) : (st.read r).1.small ∧ (st.read r).2.1.size ≤ 462 := by
  unfold PS.read
  split
  · exact ⟨h, Nat.zero_le _⟩
  · split
    · next hm => exact ⟨h, h _ (mget_mem hm)⟩
    · have hf : (st.fetS r.place r.sum).small := fun p hp => h p (by rw [PS.fetS_kept] at hp; exact hp)
      split
      · exact ⟨PS.keep_small hf r _ (PS.fetV_small _ _ _), PS.fetV_small _ _ _⟩
      · exact ⟨hf, PS.fetV_small _ _ _⟩
theorem rtext_size (m : Nat) (hm : m < 18446744073709551616) (s : ByteArray) (e : Int) : (rtextF m s e).1.size ≤ m := by
  have h1 : (rnumF (UInt64.ofNat m) s e).1.toNat ≤ m := by
    have := rnum_le (UInt64.ofNat m) 10 0 0 s e
    rw [UInt64.toNat_ofNat_of_lt' (by show m < 18446744073709551616; exact hm)] at this
    exact this
  exact Nat.le_trans (takeB_size (rnumF (UInt64.ofNat m) s e).2.1 (rnumF (UInt64.ofNat m) s e).2.2 _) h1
theorem getF_ref (s : ByteArray) : RefOk ⟨(getF s).1, (getF s).2.1⟩ ∧ (getF s).2.2.1.size ≤ 400 := by
  unfold getF
  dsimp only
  generalize takeS s 0 1 = s1
  generalize takeE s 0 1 = e1
  have h1 : (rnumF 4096 s1 e1).1.toNat ≤ 4096 := rnum_le 4096 10 0 0 s1 e1
  generalize rnumF 4096 s1 e1 = q at *
  obtain ⟨n1, s2, e2⟩ := q
  dsimp only at *
  have h2 := rtext_size 32 (by decide) s2 e2
  generalize rtextF 32 s2 e2 = q at *
  obtain ⟨sm, s3, e3⟩ := q
  dsimp only at *
  have h3 := rtext_size 400 (by decide) s3 e3
  generalize rtextF 400 s3 e3 = q at *
  exact ⟨⟨⟨by show _ ≤ (n1.toNat : Int) - 1; omega, by show (n1.toNat : Int) - 1 ≤ _; omega⟩, Nat.le_trans h2 (by decide)⟩, h3⟩
theorem getF_data (s : ByteArray) (h : (getF s).2.2.2 = true) : 0 < (getF s).2.2.1.size := by
  unfold getF at h ⊢
  dsimp only at h ⊢
  simp only [Bool.and_eq_true, decide_eq_true_eq] at h
  have hne := h.1.2
  generalize (rtextF 400 _ _).1 = d at *
  rcases Nat.eq_zero_or_pos d.size with hz | hz
  · exact absurd (ByteArray.ext (Array.eq_empty_of_size_eq_zero hz)) hne
  · exact hz
/-! ### All pages of a long value -/
def bwalk : Nat → PS → Ref → ByteArray → PS × ByteArray × Int
  | 0, st, _, s => (st, s, 0)
  | k + 1, st, r, s =>
    if r.place < 0 then (st, s, 0)
    else if (st.read r).2.2 ≠ 0 then ((st.read r).1, ⟨#[]⟩, (st.read r).2.2)
    else if (getF (st.read r).2.1).2.2.2 = false ∨ 4096 < s.size + (getF (st.read r).2.1).2.2.1.size then ((st.read r).1, ⟨#[]⟩, 8)
    else bwalk k (st.read r).1 ⟨(getF (st.read r).2.1).1, (getF (st.read r).2.1).2.1⟩ (s ++ (getF (st.read r).2.1).2.2.1)
/-- What a walk leaves. -/
def WalkT (i : Ids) (w : World) (own : Nat → Nat) (res : PS × ByteArray × Int) (e : Ending) (w' : World) : Prop := ∃ v own', e = .returned (.tuple #[v, .string res.2.1, .int .i64 res.2.2]) ∧ SysC w' i res.1 own' ∧ Keeps w w' own own'
/-- A round's state: the pager, the box with the next page, the pages so far. -/
structure WI (W w : World) (i : Ids) (st : PS) (own own2 : Nat → Nat) (b : Nat) (r : Ref) (v : Value) (l : List Ref) : Prop where
  sys : SysC w i st own2
  kp : Keeps W w own own2
  blk : Blk w b 54 #[.int .i64 r.place, .string r.sum]
  zb : own2 b = 0
  mid : Mid w W.heap.size 54 2 v l.length (refs l)
  z : ∀ g, v.ownBlock = some g → own2 g = 0 ∧ g ≠ b
section
variable {W w w' : World} {i : Ids} {st st' : PS} {own own2 own3 : Nat → Nat} {b : Nat} {r : Ref} {v : Value} {l : List Ref}
theorem WI.call (h : WI W w i st own own2 b r v l) (h3 : SysC w' i st' own3) (k : Keeps w w' own2 own3) : WI W w' i st' own own3 b r v l :=
  ⟨h3, h.kp.trans k, k.blk h.blk h.zb, (k.same _ h.blk.lt).trans h.zb, h.mid.keeps k (fun g hg => (h.z g hg).1), fun g hg => ⟨h.mid.z k (fun g hg => (h.z g hg).1) g hg, (h.z g hg).2⟩⟩
theorem WI.none (h : WI W w i st own own2 b r v l) (ho : Only w w' []) : WI W w' i st own (mark w own2 0) b r v l :=
  h.call (h.sys.none_step ho).1 (h.sys.none_step ho).2
theorem WI.turn (h : WI W w i st own own2 b r v l) (hb0 : b ≠ 0) (hbW : W.heap.size ≤ b) (ho : Only w w' [b]) (r' : Ref) (hb : Blk w' b 54 #[.int .i64 r'.place, .string r'.sum]) : WI W w' i st own (mark w own2 0) b r' v l := by
  obtain ⟨h2, k2⟩ := h.sys.off h.kp ho (fun x hx => by rw [List.mem_singleton] at hx; subst hx; exact ⟨h.zb, hb0, hbW⟩)
  refine ⟨h2, k2, hb, ?_, h.mid.only ho (fun g hg hm => (h.z g hg).2 (List.mem_singleton.1 hm)), fun g hg => ⟨?_, (h.z g hg).2⟩⟩
  · rw [mark_old h.blk.lt]; exact h.zb
  · obtain ⟨_, cur, hc⟩ := h.mid.block g hg
    rw [mark_old hc.lt]; exact (h.z g hg).1
theorem WI.push (h : WI W w i st own own2 b r v l) (hW : 0 < W.heap.size) {o : Obj} {v' : Value} (hm : Mid w' W.heap.size 54 2 v' (l.length + 1) (refs l ++ [.int .i64 r.place, .string r.sum])) (hg : (w.alloc o).grownBy w' v.ownBlock) (ho : v'.ownBlock = v.ownBlock ∨ v'.ownBlock = some (w.alloc o).heap.size) :
    WI W w' i st own (mark w own2 0) b r v' (l ++ [r]) := by
  have hO : Only w w' v.ownBlock.toList := ((Only.refl w _).alloc _).trans (Only.of_grown hg (fun g e => Option.mem_toList.2 e))
  obtain ⟨h2, k2⟩ := h.sys.off h.kp hO (fun x hx => by
    have hx' := Option.mem_toList.1 hx
    have hB := (h.mid.block x hx').1
    exact ⟨(h.z x hx').1, by omega, hB⟩)
  refine ⟨h2, k2, hO.blk h.blk (fun hm => (h.z _ (Option.mem_toList.1 hm)).2 rfl), by rw [mark_old h.blk.lt]; exact h.zb, ?_, fun g hg => ?_⟩
  · rw [refs_app, List.length_append]
    exact hm
  · rcases ho with e | e
    · rw [e] at hg
      obtain ⟨_, cur, hc⟩ := h.mid.block g hg
      exact ⟨by rw [mark_old hc.lt]; exact (h.z g hg).1, (h.z g hg).2⟩
    · rw [e] at hg
      injection hg with hg
      have hlt := h.blk.lt
      rw [← hg]
      exact ⟨mark_new (by simp), by simp; omega⟩
end

end Go.Proofs.YtimpjlnbbdfehaaGreatDoor
namespace Go.Proofs.YtimpjlnbbdfehaaGreatDoor
open Go.RowKit Go.Shelf Go.Lib Go.Sort
set_option linter.unusedVariables false
attribute [local go_sem ↓] shr_32_1 shl_32_1 shr_32_2 shl_32_2 shr_32_3 shl_32_3 shr_32_4 shl_32_4 shr_32_5 shl_32_5 shr_32_6 shl_32_6 shr_32_7 shl_32_7 shr_32_8 shl_32_8 shr_32_9 shl_32_9 shr_32_10 shl_32_10 shr_32_11 shl_32_11 shr_32_12 shl_32_12 shr_32_13 shl_32_13 shr_32_14 shl_32_14 shr_32_15 shl_32_15 shr_32_16 shl_32_16 shr_32_17 shl_32_17 shr_32_18 shl_32_18 shr_32_19 shl_32_19 shr_32_20 shl_32_20 shr_32_21 shl_32_21 shr_32_22 shl_32_22 shr_32_23 shl_32_23 shr_32_24 shl_32_24 shr_32_25 shl_32_25 shr_32_26 shl_32_26 shr_32_27 shl_32_27 shr_32_28 shl_32_28 shr_32_29 shl_32_29 shr_32_30 shl_32_30 shr_32_31 shl_32_31 shr_64_3 shl_64_3 shr_64_7 shl_64_7 shr_64_8 shl_64_8 shr_64_16 shl_64_16 shr_64_24 shl_64_24 shr_64_32 shl_64_32 shr_64_40 shl_64_40 shr_64_48 shl_64_48 shr_64_56 shl_64_56
attribute [local go_sem] add_u32 add_u64 and_u8 or_u8 xor_u8 and_u32 or_u32 xor_u32 and_u64 or_u64 xor_u64 conv_32_8 conv_64_8 conv_64_32 conv_8_32 conv_8_64 conv_32_64

theorem blk_push {w w' : World} {B g n : Nat} {t e : TypeId} {size : Nat} {v : Value} {xs : List Value} {cs : Array Value} {o : Obj} (hm : Mid w B e size v n xs) (hb : Blk w g t cs) (hne : e ≠ t) (hg : (w.alloc o).grownBy w' v.ownBlock) : Blk w' g t cs :=
  (((Only.refl w v.ownBlock.toList).alloc o).trans (Only.of_grown hg (fun g e => Option.mem_toList.2 e))).blk hb (fun h => hm.ne_blk hb hne (Option.mem_toList.1 h))
set_option maxHeartbeats 16000000 in
set_option maxRecDepth 100000 in
theorem walk_ok {w : World} {i : Ids} {st0 : PS} {own : Nat → Nat} {n : Nat} (h : SysC w i st0 own) (ok : st0.okN n) (hn : n ≤ 100000) (hsm : st0.small) (r0 : Ref) (hr : RefOk r0) :
    Calls Tryz.prog 89 #[.pointer (some ⟨i.p, 0, none⟩), .agg #[.int .i64 r0.place, .string r0.sum]] w (WalkT i w own (bwalk 4097 st0 r0 ⟨#[]⟩)) := by
  obtain ⟨i54, hi54, hz0, hz1, hz2⟩ := info_parts info54f
  obtain ⟨h0, k0⟩ := h.box0 (.cells #[.int .i64 r0.place, .string r0.sum] 54)
  have hb0 : Blk (w.alloc (.cells #[.int .i64 r0.place, .string r0.sum] 54)) w.heap.size 54 #[.int .i64 r0.place, .string r0.sum] := Blk.new w 54 _
  have HI0 : Hid (WI w (w.alloc (.cells #[.int .i64 r0.place, .string r0.sum] 54)) i st0 own (mark w own 0) w.heap.size r0 (.slice none 0 0) []) := ⟨h0, k0, hb0, mark_new (Nat.le_refl _), Mid.nil _ _ _ _, fun g hg => by simp [Value.ownBlock] at hg⟩
  have HOK := Lib.hid ok
  have HSM := Lib.hid hsm
  have HRO := Lib.hid hr
  have HW : Hid (0 < w.heap.size) := h.salts.1
  have HPR := Lib.hid (fun (m : Nat) (hm : m ≤ 200000) (st : PS) (ok : st.okN m) (r : Ref) (hr : RefOk r) w1 own1 (h1 : SysC w1 i st own1) => pread_ok h1 ok (by omega) r hr)
  have HRES : Hid (bwalk 4097 st0 r0 ⟨#[]⟩ = bwalk 4097 st0 r0 ⟨#[]⟩) := rfl
  obtain ⟨res, hres⟩ : ∃ res, res = bwalk 4097 st0 r0 ⟨#[]⟩ := ⟨_, rfl⟩
  have HRS := Lib.hid hres
  rw [← hres]
  clear h h0 k0 hb0 ok hsm hr HRES hres
  go_enter Tryz.func89, Tryz.ntmps89
  go_wp2_with fail
  generalize w.alloc (.cells #[.int .i64 r0.place, .string r0.sum] 54) = w1 at *
  generalize mark w own 0 = own1 at *
  obtain ⟨b, hb⟩ : ∃ b, b = w.heap.size := ⟨_, rfl⟩
  have HBB : Hid (w.heap.size ≤ b) := by show _ ≤ _; omega
  have HB0 : Hid (b ≠ 0) := by have := HW.out; show _ ≠ _; omega
  have HI1 : Hid (WI w w1 i st0 own own1 b r0 (.slice none 0 0) []) := by rw [hb]; exact HI0.out
  rw [← hb]
  clear hb HI0
  go_loopg [7, 8] 4097 (fun q v7 v8 wr => ∃ (st : PS) (r : Ref) (s : ByteArray) (own2 : Nat → Nat) (l : List Ref), v8 = .string s ∧ res = bwalk q st r s ∧ s.size ≤ 4096 ∧ 4097 ≤ q + s.size ∧ q ≤ 4097 ∧ RefOk r ∧ st.okN (n + 2 * (4097 - q)) ∧ st.small ∧ WI w wr i st own own2 b r v7 l ∧ l.length + q ≤ 4097)
  case atStart => exact ⟨st0, r0, ⟨#[]⟩, own1, [], rfl, HRS.out, Nat.zero_le _, by show 4097 ≤ 4097 + 0; decide, Nat.le_refl _, HRO.out, by simpa using HOK.out, HSM.out, HI1.out, Nat.le_refl _⟩
  case round =>
    obtain ⟨st, r, s, own2, l, rfl, hres, hs1, hs2, hq, hro, hok, hsm, hi, hlq⟩ := hrel
    have RRES := Lib.hid hres
    have RRO := Lib.hid hro
    have ROK := Lib.hid hok
    have RSM := Lib.hid hsm
    have RI := Lib.hid hi
    have RS : Hid (s.size ≤ 4096 ∧ 4097 ≤ gk + s.size ∧ gk ≤ 4097 ∧ l.length + gk ≤ 4097) := ⟨hs1, hs2, hq, hlq⟩
    obtain ⟨q, rfl⟩ : ∃ q, gk = q + 1 := ⟨gk - 1, by omega⟩
    clear hres hro hok hsm hi hs1 hs2 hq hlq HI1 HOK HSM HRO HRS
    have c0 := RI.out.blk.cell 0
    have c1 := RI.out.blk.cell 1
    obtain ⟨⟨pl, sm⟩, hrr⟩ : ∃ r', r' = r := ⟨r, rfl⟩
    subst hrr
    dsimp only at c0 c1
    by_cases hp : pl < 0
    · have hd : decide ((0 : Int) ≤ pl) = false := by simp; omega
      have HR : Hid (res = (st, s, 0)) := RRES.out.trans (if_pos hp)
      clear hp
      go_wp2_with fail
      go_ret3
      exact ⟨_, own2, by rw [HR.out]; rfl, by rw [HR.out]; exact RI.out.sys, RI.out.kp⟩
    · have hd : decide ((0 : Int) ≤ pl) = true := by simp; omega
      have HP := Lib.hid (HPR.out (n + 2 * (4097 - (q + 1))) (by omega) st ROK.out ⟨pl, sm⟩ RRO.out wr own2 RI.out.sys)
      have HRD := Lib.hid (PS.read_small RSM.out ⟨pl, sm⟩)
      have HOK2 := Lib.hid ((PS.read_okN ROK.out ⟨pl, sm⟩ RRO.out).mono (m := n + 2 * (4097 - q)) (by have := RS.out; omega))
      have HR := Lib.hid (RRES.out.trans (if_neg hp))
      dsimp only at HP
      generalize st.read ⟨pl, sm⟩ = rd at *
      obtain ⟨st1, t, er⟩ := rd
      dsimp only at HP HRD HOK2 HR
      clear hp ROK RSM
      go_wp2_with fail
      refine HP.out.mono ?_
      rintro e w2 ⟨rfl, own3, h3, k3⟩
      have HI3 := Lib.hid (RI.out.call h3 k3)
      clear h3 k3 HP RI c0 c1
      by_cases her : er = 0
      · subst her
        have HR1 := Lib.hid (HR.out.trans (if_neg (by simp)))
        have HG := Lib.hid (fun (w4 : World) (hw : 0 < w4.heap.size) => get_ok t (by have := HRD.out.2; omega) w4 hw)
        have HGR := Lib.hid (getF_ref t)
        have HGD := Lib.hid (getF_data t)
        generalize getF t = x at *
        obtain ⟨npl, nsm, dt, okb⟩ := x
        dsimp only at HR1 HG HGR HGD
        clear HR
        go_wp2_with fail
        refine (HG.out w2 HI3.out.sys.salts.1).mono ?_
        rintro e w3 ⟨rfl, hb3⟩
        have HI4 := Lib.hid (HI3.out.none (only_of_below hb3))
        have HA4 : Hid (Blk (w3.alloc (.cells #[.int .i64 0, .string ⟨#[]⟩, .string ⟨#[]⟩] 163)) w3.heap.size 163 #[.int .i64 0, .string ⟨#[]⟩, .string ⟨#[]⟩]) := Blk.new w3 163 _
        have HB5 : Hid (Blk ((w3.alloc (.cells #[.int .i64 0, .string ⟨#[]⟩, .string ⟨#[]⟩] 163)).setRow w3.heap.size #[.int .i64 npl, .string nsm, .string dt]) w3.heap.size 163 #[.int .i64 npl, .string nsm, .string dt]) := (Blk.new w3 163 _).row _
        have HI5 : Hid (WI w ((w3.alloc (.cells #[.int .i64 0, .string ⟨#[]⟩, .string ⟨#[]⟩] 163)).setRow w3.heap.size #[.int .i64 npl, .string nsm, .string dt]) i st1 own _ b ⟨pl, sm⟩ u7 l) := HI4.out.none (only_newRow ((Only.refl w3 []).alloc _) (Nat.le_refl _) _)
        have HNB : Hid (w3.heap.size ≠ b) := by have := HI4.out.blk.lt; show _ ≠ _; omega
        clear hb3 HG HI3
        cases okb with
        | false =>
          have HR2 : Hid (res = (st1, ⟨#[]⟩, 8)) := HR1.out.trans (if_pos (.inl rfl))
          clear HR1
          go_wp2_with (first
            | (refine wpList_store_row rfl 163 (.tmp 11) (.tmp 28) (by rfl) w3.heap.size #[.int .i64 npl, .string nsm, .string dt] (by rfl) (by rfl) 163 _ HA4.out info163 (by rfl) (by simp [Value.oneCell']) ?_; generalize (w3.alloc (.cells #[.int .i64 0, .string ⟨#[]⟩, .string ⟨#[]⟩] 163)).setRow w3.heap.size #[.int .i64 npl, .string nsm, .string dt] = w5 at *)
            | (refine wpList_load_row rfl 54 (.tmp 3) (by rfl) b (by rfl) 54 #[.int .i64 pl, .string sm] (0, 0) _ HI5.out.blk Tryz.underlying54 rfl info54 ?_)
            | (at_builtin; refine wpList_append_mid _ rfl (.tmp 30) (.tmp 32) 100 rfl w.heap.size 54 i54 (.agg #[.int .i64 0, .string ⟨#[]⟩]) 2 24 Tryz.underlying100 hi54 hz0 hz1 hz2 rfl (by decide) _ _ _ (by rfl) (HI5.out.mid.alloc _) (some ⟨w5.heap.size, 0, none⟩) 1 1 [.int .i64 pl, .string sm] rfl rfl (row_two _ _ _ _) (by simp [Value.oneCell']) (by have := RS.out; simp only [maxLen]; omega) (by have := RS.out; omega) (by have := HI5.out.kp.size; simp; omega) ?_; intro v6 w6 hm6 hg6 ho6; have HI6 := Lib.hid (HI5.out.push HW.out hm6 hg6 ho6); have HB6 := Lib.hid (blk_push HI5.out.mid HB5.out (by decide) hg6); have c62 := HB6.out.cell 2; clear hm6 hg6 ho6)
            | fail)
          go_ret3
          exact ⟨_, _, by rw [HR2.out]; rfl, by rw [HR2.out]; exact HI6.out.sys, HI6.out.kp⟩
        | true =>
          have hdz := HGD.out rfl
          have hwr : wrap64 ((s.size : Int) + (dt.size : Int)) = (s.size : Int) + (dt.size : Int) := by
            have := RS.out
            have := HGR.out.2
            exact w64_small _ (by omega) (by omega)
          by_cases hlong : 4096 < s.size + dt.size
          · have HR2 : Hid (res = (st1, ⟨#[]⟩, 8)) := HR1.out.trans (if_pos (.inr hlong))
            have hd9 : decide ((4096 : Int) < (s.size : Int) + (dt.size : Int)) = true := by simp; omega
            clear HR1 hlong hdz
            go_wp2_with (first
              | (refine wpList_store_row rfl 163 (.tmp 11) (.tmp 28) (by rfl) w3.heap.size #[.int .i64 npl, .string nsm, .string dt] (by rfl) (by rfl) 163 _ HA4.out info163 (by rfl) (by simp [Value.oneCell']) ?_; generalize (w3.alloc (.cells #[.int .i64 0, .string ⟨#[]⟩, .string ⟨#[]⟩] 163)).setRow w3.heap.size #[.int .i64 npl, .string nsm, .string dt] = w5 at *)
              | (refine wpList_load_row rfl 54 (.tmp 3) (by rfl) b (by rfl) 54 #[.int .i64 pl, .string sm] (0, 0) _ HI5.out.blk Tryz.underlying54 rfl info54 ?_)
              | (at_builtin; refine wpList_append_mid _ rfl (.tmp 30) (.tmp 32) 100 rfl w.heap.size 54 i54 (.agg #[.int .i64 0, .string ⟨#[]⟩]) 2 24 Tryz.underlying100 hi54 hz0 hz1 hz2 rfl (by decide) _ _ _ (by rfl) (HI5.out.mid.alloc _) (some ⟨w5.heap.size, 0, none⟩) 1 1 [.int .i64 pl, .string sm] rfl rfl (row_two _ _ _ _) (by simp [Value.oneCell']) (by have := RS.out; simp only [maxLen]; omega) (by have := RS.out; omega) (by have := HI5.out.kp.size; simp; omega) ?_; intro v6 w6 hm6 hg6 ho6; have HI6 := Lib.hid (HI5.out.push HW.out hm6 hg6 ho6); have HB6 := Lib.hid (blk_push HI5.out.mid HB5.out (by decide) hg6); have c62 := HB6.out.cell 2; clear hm6 hg6 ho6)
              | fail)
            go_ret3
            exact ⟨_, _, by rw [HR2.out]; rfl, by rw [HR2.out]; exact HI6.out.sys, HI6.out.kp⟩
          · have HR2 : Hid (res = bwalk q st1 ⟨npl, nsm⟩ (s ++ dt)) := HR1.out.trans (if_neg (by rintro (h | h); exact absurd h (by simp); exact hlong h))
            have HSZ : Hid (s.size + dt.size ≤ 4096 ∧ 0 < dt.size) := ⟨by omega, hdz⟩
            have hd9 : decide ((4096 : Int) < (s.size : Int) + (dt.size : Int)) = false := by simp; omega
            clear HR1 hlong hdz
            go_wp2_with (first
              | (refine wpList_store_row rfl 163 (.tmp 11) (.tmp 28) (by rfl) w3.heap.size #[.int .i64 npl, .string nsm, .string dt] (by rfl) (by rfl) 163 _ HA4.out info163 (by rfl) (by simp [Value.oneCell']) ?_; generalize (w3.alloc (.cells #[.int .i64 0, .string ⟨#[]⟩, .string ⟨#[]⟩] 163)).setRow w3.heap.size #[.int .i64 npl, .string nsm, .string dt] = w5 at *)
              | (refine wpList_load_row rfl 54 (.tmp 3) (by rfl) b (by rfl) 54 #[.int .i64 pl, .string sm] (0, 0) _ HI5.out.blk Tryz.underlying54 rfl info54 ?_)
              | (at_builtin; refine wpList_append_mid _ rfl (.tmp 30) (.tmp 32) 100 rfl w.heap.size 54 i54 (.agg #[.int .i64 0, .string ⟨#[]⟩]) 2 24 Tryz.underlying100 hi54 hz0 hz1 hz2 rfl (by decide) _ _ _ (by rfl) (HI5.out.mid.alloc _) (some ⟨w5.heap.size, 0, none⟩) 1 1 [.int .i64 pl, .string sm] rfl rfl (row_two _ _ _ _) (by simp [Value.oneCell']) (by have := RS.out; simp only [maxLen]; omega) (by have := RS.out; omega) (by have := HI5.out.kp.size; simp; omega) ?_; intro v6 w6 hm6 hg6 ho6; have HI6 := Lib.hid (HI5.out.push HW.out hm6 hg6 ho6); have HB6 := Lib.hid (blk_push HI5.out.mid HB5.out (by decide) hg6); have c62 := HB6.out.cell 2; clear hm6 hg6 ho6)
              | fail)
            generalize w3.heap.size = b11 at *
            have HI7 : Hid (WI w ((w6.drew).setRow b #[.int .i64 npl, .string nsm]) i st1 own _ b ⟨npl, nsm⟩ v6 (l ++ [⟨pl, sm⟩])) := HI6.out.turn HB0.out HBB.out (only_setRow ((Only.refl w6 [b]).drewN 1) (List.mem_singleton.2 rfl) _) ⟨npl, nsm⟩ ((HI6.out.blk.drewN 1).row _)
            have HN11 : Hid (b11 ≠ b) := HNB.out
            clear c62
            have hcat : ¬ 9223372036854775807 < s.size + dt.size := by have := HSZ.out; omega
            refine wp_region_plan (fun w' => w'.cell? ⟨b11, 0, none⟩ = some (.int .i64 npl) ∧ w'.cell? ⟨b11, 1, none⟩ = some (.string nsm) ∧ w'.cell? ⟨b11, 2, none⟩ = some (.string dt)) 7 [(true, 0), (true, 1), (true, 2), (true, 3), (true, 4), (true, 5), (false, 6)] (by kernel_rfl) (by kernel_rfl) ⟨HB6.out.drew.cell 0, HB6.out.drew.cell 1, HB6.out.drew.cell 2⟩ ?_
            simp only [List.map_cons, List.map_nil, List.getD_cons_zero, List.getD_cons_succ, List.drop_succ_cons, List.drop_zero]
            (refine plan_take (v := ?_) rfl ?_ ?_; rotate_left; (rintro wS ⟨hS1, hS2, hS3⟩; (try dsimp only at hS1 hS2 hS3); go_simp; try with_reducible rfl); simp only [Act.put, List.setIfInBounds_toArray, List.set_cons_zero, List.set_cons_succ])
            (refine plan_take (v := ?_) rfl ?_ ?_; rotate_left; (rintro wS ⟨hS1, hS2, hS3⟩; (try dsimp only at hS1 hS2 hS3); go_simp; try with_reducible rfl); simp only [Act.put, List.setIfInBounds_toArray, List.set_cons_zero, List.set_cons_succ])
            (refine plan_take (v := ?_) rfl ?_ ?_; rotate_left; (rintro wS ⟨hS1, hS2, hS3⟩; (try dsimp only at hS1 hS2 hS3); go_simp; try with_reducible rfl); simp only [Act.put, List.setIfInBounds_toArray, List.set_cons_zero, List.set_cons_succ])
            (refine plan_take (v := ?_) rfl ?_ ?_; rotate_left; (rintro wS ⟨hS1, hS2, hS3⟩; (try dsimp only at hS1 hS2 hS3); go_simp; try with_reducible rfl); simp only [Act.put, List.setIfInBounds_toArray, List.set_cons_zero, List.set_cons_succ])
            (refine plan_take (v := ?_) rfl ?_ ?_; rotate_left; (rintro wS ⟨hS1, hS2, hS3⟩; (try dsimp only at hS1 hS2 hS3); go_simp; try with_reducible rfl); simp only [Act.put, List.setIfInBounds_toArray, List.set_cons_zero, List.set_cons_succ])
            (refine plan_take (v := ?_) rfl ?_ ?_; rotate_left; (rintro wS ⟨hS1, hS2, hS3⟩; (try dsimp only at hS1 hS2 hS3); go_simp; with_reducible rfl); simp only [Act.put, List.setIfInBounds_toArray, List.set_cons_zero, List.set_cons_succ])
            refine plan_run rfl (fun K hK => ?_)
            refine wp_store_row 54 (.tmp 3) (.tmp 46) rfl b #[.int .i64 npl, .string nsm] (by rfl) (by rfl) 54 _ (HI6.out.blk.drewN 1) info54 (by rfl) (by simp [Value.oneCell']) ?_
            refine hK.out _ _ ⟨(HB6.out.drew.farRow HN11.out _).cell 0, (HB6.out.drew.farRow HN11.out _).cell 1, (HB6.out.drew.farRow HN11.out _).cell 2⟩ ?_
            clear hK K
            try simp only [Act.put, List.setIfInBounds_toArray, List.set_cons_zero, List.set_cons_succ]
            refine plan_nil ?_
            go_wp2_with fail
            refine NoPanic.normal ?_
            go_wp2_with fail
            go_roundg q
            exact ⟨st1, ⟨npl, nsm⟩, s ++ dt, _, l ++ [⟨pl, sm⟩], rfl, HR2.out, by rw [ByteArray.size_append]; exact HSZ.out.1, by rw [ByteArray.size_append]; have := RS.out; have := HSZ.out; omega, by have := RS.out; omega, HGR.out.1, HOK2.out, HRD.out.1, HI7.out, by rw [List.length_append]; have := RS.out; simp; omega⟩
            exact Nat.lt_succ_self _
      · have HR1 : Hid (res = (st1, ⟨#[]⟩, er)) := HR.out.trans (if_pos her)
        have hne : (er != 0) = true := by simp [her]
        clear HR her
        go_wp2_with fail
        go_ret3
        exact ⟨_, own3, by rw [HR1.out]; rfl, by rw [HR1.out]; exact HI3.out.sys, HI3.out.kp⟩

end Go.Proofs.YtimpjlnbbdfehaaGreatDoor
namespace Go.Proofs.YtimpjlnbbdfehaaGreatDoor
open Go.RowKit Go.Shelf Go.Lib Go.Sort
set_option linter.unusedVariables false
attribute [local go_sem ↓] shr_32_1 shl_32_1 shr_32_2 shl_32_2 shr_32_3 shl_32_3 shr_32_4 shl_32_4 shr_32_5 shl_32_5 shr_32_6 shl_32_6 shr_32_7 shl_32_7 shr_32_8 shl_32_8 shr_32_9 shl_32_9 shr_32_10 shl_32_10 shr_32_11 shl_32_11 shr_32_12 shl_32_12 shr_32_13 shl_32_13 shr_32_14 shl_32_14 shr_32_15 shl_32_15 shr_32_16 shl_32_16 shr_32_17 shl_32_17 shr_32_18 shl_32_18 shr_32_19 shl_32_19 shr_32_20 shl_32_20 shr_32_21 shl_32_21 shr_32_22 shl_32_22 shr_32_23 shl_32_23 shr_32_24 shl_32_24 shr_32_25 shl_32_25 shr_32_26 shl_32_26 shr_32_27 shl_32_27 shr_32_28 shl_32_28 shr_32_29 shl_32_29 shr_32_30 shl_32_30 shr_32_31 shl_32_31 shr_64_3 shl_64_3 shr_64_7 shl_64_7 shr_64_8 shl_64_8 shr_64_16 shl_64_16 shr_64_24 shl_64_24 shr_64_32 shl_64_32 shr_64_40 shl_64_40 shr_64_48 shl_64_48 shr_64_56 shl_64_56
attribute [local go_sem] add_u32 add_u64 and_u8 or_u8 xor_u8 and_u32 or_u32 xor_u32 and_u64 or_u64 xor_u64 conv_32_8 conv_64_8 conv_64_32 conv_8_32 conv_8_64 conv_32_64

/-! ### A region that draws its order, with an operation that floats: a plan that forks -/
/-- A plan by places. -/
inductive PlanT where
  | nil
  | take (i : Nat) (p : PlanT)
  | run (i : Nat) (p : PlanT)
  | fork (i : Nat) (p : PlanT) (j : Nat) (q : PlanT)
/-- The plan by operations. -/
inductive OpT where
  | nil
  | take (o : Oper) (p : OpT)
  | run (o : Oper) (p : OpT)
  | fork (o : Oper) (p : OpT) (o2 : Oper) (q : OpT)
def PlanT.ops (l : List Oper) : PlanT → OpT
  | .nil => .nil
  | .take i p => .take (l.getD i default) (p.ops l)
  | .run i p => .run (l.getD i default) (p.ops l)
  | .fork i p j q => .fork (l.getD i default) (p.ops l) (l.getD j default) (q.ops l)
def PlanT.len : PlanT → Nat
  | .nil => 0
  | .take _ p => p.len + 1
  | .run _ p => p.len + 1
  | .fork _ p _ _ => p.len + 1
section
variable {P : Program} {ops : Array Oper} {Q : Exit → Act → World → Prop} {md : Region.Mode} {S : World → Prop}
def wpFork (P : Program) (ops : Array Oper) (Q : Exit → Act → World → Prop) (S : World → Prop) (L : Act → World → Prop) : OpT → Act → World → Prop
  | .nil, a, w => L a w
  | .take o r, a, w => ∃ v, YieldsIf P ops S o v a ∧ wpFork P ops Q S L r (a.put o.dst v) w
  | .run o r, a, w => o.guard = none ∧ o.wp P a w (fun a' w' => S w' ∧ wpFork P ops Q S L r a' w') Q
  | .fork o r o2 r2, a, w => (o.guard = none ∧ o.wp P a w (fun a' w' => S w' ∧ wpFork P ops Q S L r a' w') Q) ∧ (o2.guard = none ∧ o2.wp P a w (fun a' w' => S w' ∧ wpFork P ops Q S L r2 a' w') Q)
def forkB (md : Region.Mode) (ops : Array Oper) (g n : Nat) : PlanT → Array Bool → Bool
  | .nil, listed => Region.seqB md ops g n listed
  | .take i r, listed => decide (i < n) && decide (i < ops.size) && (Region.ready md ops listed).contains i && Region.free md ops listed i && forkB md ops g n r (listed.setIfInBounds i true)
  | .run i r, listed => decide (i < n) && decide (i < ops.size) && decide (Region.ready md ops listed = [i]) && forkB md ops g n r (listed.setIfInBounds i true)
  | .fork i r j r2, listed => decide (i < n) && decide (i < ops.size) && decide (j < n) && decide (j < ops.size) && decide (r2.len = r.len) && decide (Region.ready md ops listed = [i, j]) && forkB md ops g n r (listed.setIfInBounds i true) && forkB md ops g n r2 (listed.setIfInBounds j true)
def regionForkB (md : Region.Mode) (ops : Array Oper) (n : Nat) (plan : PlanT) : Bool :=
  Region.noSelect ops && decide (n < ops.size) && Region.sinkB md ops n && Region.chainB md ops n && decide (plan.len = n) && forkB md ops (ops.size - n) n plan (Array.replicate ops.size false)

theorem wpAnyM_fork {g n : Nat} {Lq : Act → World → Prop} {l : List Oper} (hops : ops = l.toArray) (hsel : Region.noSelect ops = true) (hs : Region.sinkB md ops n = true) (hc : Region.chainB md ops n = true) (hn : n < ops.size) (hQ : ∀ c (a a' : Act) w, Q (.panic c) a' w → Q (.panic c) a w) :
    ∀ (plan : PlanT) (listed : Array Bool) (a : Act) (w : World), HeadInv md ops n listed → S w → forkB md ops g n plan listed = true →
    wpFork P ops Q S Lq (plan.ops l) a w →
    wpAnyM P md ops Q S (fun listed' a' w' => Region.seqB md ops g n listed' = true ∧ Lq a' w') plan.len listed a w
  | .nil, listed, a, w, inv, hS, hB, h => ⟨hB, h⟩
  | .take i r, listed, a, w, inv, hS, hB, h => by
    simp only [forkB, Bool.and_eq_true, decide_eq_true_eq] at hB
    obtain ⟨⟨⟨⟨hin, hil⟩, hr⟩, hf⟩, hB'⟩ := hB
    have hr' : i ∈ Region.ready md ops listed := by simpa using hr
    have h0 : ops[i]? = some (l.getD i default) := by
      subst hops
      have : i < l.length := by simpa using hil
      simp [this]
    obtain ⟨v, hy, hK⟩ := h
    exact wpAnyM_first h0 (Region.noSelect_spec hsel) hs hc hn hin (fun c a w hq => hQ c _ _ w hq) (fun listed' a' w' hL => seqB_ready hL.1) r.len listed a w inv (Region.free_spec h0 hf) hr' hy hS
      (wpAnyM_fork hops hsel hs hc hn hQ r _ _ w (inv.set hr' hin) hS hB' hK)
  | .run i r, listed, a, w, inv, hS, hB, h => by
    simp only [forkB, Bool.and_eq_true, decide_eq_true_eq] at hB
    obtain ⟨⟨⟨hin, hil⟩, hr⟩, hB'⟩ := hB
    have hr' : i ∈ Region.ready md ops listed := by rw [hr]; simp
    have h0 : ops[i]? = some (l.getD i default) := by
      subst hops
      have : i < l.length := by simpa using hil
      simp [this]
    obtain ⟨hg, hw⟩ := h
    refine ⟨fun h1 => (by rw [h1] at hr'; cases hr'), fun j hj => ?_⟩
    rw [hr] at hj
    obtain rfl : j = i := by simpa using hj
    have hwd : Region.wanted (l.getD j default) (yielded ops a.tmps) = true := by unfold Region.wanted; rw [hg]
    unfold wpOp
    simp only [h0, hwd, if_true]
    exact .inl (Oper.wp_mono (fun a' w' h' => ⟨h'.1, wpAnyM_fork hops hsel hs hc hn hQ r _ a' w' (inv.set hr' hin) h'.1 hB' h'.2⟩) hw)
  | .fork i r k r2, listed, a, w, inv, hS, hB, h => by
    simp only [forkB, Bool.and_eq_true, decide_eq_true_eq] at hB
    obtain ⟨⟨⟨⟨⟨⟨⟨hin, hil⟩, hjn⟩, hjl⟩, hlen⟩, hr⟩, hB1⟩, hB2⟩ := hB
    have hri : i ∈ Region.ready md ops listed := by rw [hr]; simp
    have hrj : k ∈ Region.ready md ops listed := by rw [hr]; simp
    have h0 : ∀ m, m < ops.size → ops[m]? = some (l.getD m default) := fun m hm => by
      subst hops
      have : m < l.length := by simpa using hm
      simp [this]
    obtain ⟨⟨hg1, hw1⟩, ⟨hg2, hw2⟩⟩ := h
    refine ⟨fun h1 => (by rw [h1] at hri; cases hri), fun m hm => ?_⟩
    rw [hr] at hm
    simp only [List.mem_cons, List.not_mem_nil, or_false] at hm
    rcases hm with rfl | rfl
    · have hwd : Region.wanted (l.getD m default) (yielded ops a.tmps) = true := by unfold Region.wanted; rw [hg1]
      unfold wpOp
      simp only [h0 m hil, hwd, if_true]
      exact .inl (Oper.wp_mono (fun a' w' h' => ⟨h'.1, wpAnyM_fork hops hsel hs hc hn hQ r _ a' w' (inv.set hri hin) h'.1 hB1 h'.2⟩) hw1)
    · have hwd : Region.wanted (l.getD m default) (yielded ops a.tmps) = true := by unfold Region.wanted; rw [hg2]
      unfold wpOp
      simp only [h0 m hjl, hwd, if_true]
      exact .inl (Oper.wp_mono (fun a' w' h' => ⟨h'.1, by
        have := wpAnyM_fork hops hsel hs hc hn hQ r2 _ a' w' (inv.set hrj hjn) h'.1 hB2 h'.2
        rw [hlen] at this
        exact this⟩) hw2)

/-- THE LAW. -/
theorem wp_region_fork {id : Nat} {a : Act} {w : World} {l : List Oper} (S : World → Prop) (n : Nat) (plan : PlanT) (hm : P.follows .mixedOrders = true) (hB : regionForkB .any l.toArray n plan = true) (hS : S w.drew)
    (h : wpFork P l.toArray (NoPanic Q) S (fun a' w' => wpList P l.toArray (NoPanic Q) (l.drop n) a' w') (plan.ops l) a w.drew) :
    (Code.region id l.toArray true).wp P Q a w := by
  refine wp_region_noPanic ?_
  simp only [regionForkB, Bool.and_eq_true, decide_eq_true_eq] at hB
  obtain ⟨⟨⟨⟨⟨hsel, hn⟩, hs⟩, hc⟩, hlen⟩, hlex⟩ := hB
  have hn' : n < l.length := by simpa using hn
  have hdl : (l.drop n).length = l.toArray.size - n := by simp
  have inv0 : HeadInv .any l.toArray n (Array.replicate l.toArray.size false) :=
    ⟨by simp, fun j oj _ hl => (by rw [getD_replicate_false] at hl; cases hl), fun t _ ht => getD_in (by simpa using ht) (getD_replicate_false _ _)⟩
  have H := wpAnyM_fork (P := P) (md := .any) (Q := NoPanic Q) (S := S) (g := l.toArray.size - n) rfl hsel hs hc hn (fun c a a' w h => h.elim) plan _ a w.drew inv0 hS hlex h
  refine wp_region_any hm ?_
  have := wpAny_of_M (Q := NoPanic Q) (g := l.toArray.size - n) (fun listed a' w' hL => by
    have := wpAny_of_seq (md := .any) (Q' := NoPanic Q) (l.drop n) n listed a' w' (fun j => by simp [List.getElem?_drop]) (by rw [hdl]; exact hL.1) hL.2
    rwa [hdl] at this) _ _ _ _ H
  rw [hlen, show n + (l.toArray.size - n) = l.toArray.size by omega] at this
  exact this
theorem fork_take {L : Act → World → Prop} {o : Oper} {l : OpT} {a : Act} {w : World} {v : Value} (hg : o.guard = none) (hy : ∀ w, S w → (execOp a.eval o).run P w = .ok (.value v) w) (h : wpFork P ops Q S L l (a.put o.dst v) w) : wpFork P ops Q S L (.take o l) a w :=
  ⟨v, .inl ⟨by simp [Region.wanted, hg], hy⟩, h⟩
theorem fork_run {L : Act → World → Prop} {o : Oper} {l : OpT} {a : Act} {w : World} (hg : o.guard = none) (h : ∀ K : Act → World → Prop, Hid (∀ a' w', S w' → wpFork P ops Q S L l a' w' → K a' w') → o.wp P a w K Q) : wpFork P ops Q S L (.run o l) a w :=
  ⟨hg, h _ fun _ _ h1 h2 => ⟨h1, h2⟩⟩
theorem fork_two {L : Act → World → Prop} {o o2 : Oper} {l l2 : OpT} {a : Act} {w : World} (h1 : wpFork P ops Q S L (.run o l) a w) (h2 : wpFork P ops Q S L (.run o2 l2) a w) : wpFork P ops Q S L (.fork o l o2 l2) a w := ⟨h1, h2⟩
theorem fork_nil {L : Act → World → Prop} {a : Act} {w : World} (h : L a w) : wpFork P ops Q S L .nil a w := h
end

end Go.Proofs.YtimpjlnbbdfehaaGreatDoor
namespace Go.Proofs.YtimpjlnbbdfehaaGreatDoor
open Go.RowKit Go.Shelf Go.Lib Go.Sort
set_option linter.unusedVariables false
attribute [local go_sem ↓] shr_32_1 shl_32_1 shr_32_2 shl_32_2 shr_32_3 shl_32_3 shr_32_4 shl_32_4 shr_32_5 shl_32_5 shr_32_6 shl_32_6 shr_32_7 shl_32_7 shr_32_8 shl_32_8 shr_32_9 shl_32_9 shr_32_10 shl_32_10 shr_32_11 shl_32_11 shr_32_12 shl_32_12 shr_32_13 shl_32_13 shr_32_14 shl_32_14 shr_32_15 shl_32_15 shr_32_16 shl_32_16 shr_32_17 shl_32_17 shr_32_18 shl_32_18 shr_32_19 shl_32_19 shr_32_20 shl_32_20 shr_32_21 shl_32_21 shr_32_22 shl_32_22 shr_32_23 shl_32_23 shr_32_24 shl_32_24 shr_32_25 shl_32_25 shr_32_26 shl_32_26 shr_32_27 shl_32_27 shr_32_28 shl_32_28 shr_32_29 shl_32_29 shr_32_30 shl_32_30 shr_32_31 shl_32_31 shr_64_3 shl_64_3 shr_64_7 shl_64_7 shr_64_8 shl_64_8 shr_64_16 shl_64_16 shr_64_24 shl_64_24 shr_64_32 shl_64_32 shr_64_40 shl_64_40 shr_64_48 shl_64_48 shr_64_56 shl_64_56
attribute [local go_sem] add_u32 add_u64 and_u8 or_u8 xor_u8 and_u32 or_u32 xor_u32 and_u64 or_u64 xor_u64 conv_32_8 conv_64_8 conv_64_32 conv_8_32 conv_8_64 conv_32_64

/-! ### One write more, whatever comes of it -/
theorem write_any {w : World} {i : Ids} {st : PS} {own : Nat → Nat} {n N : Nat} {all : List Pg} (h : SysC w i st own) (ok : st.okN n) (hn : n ≤ 900000) (hP : PlayI N all st) (hN : 2 ≤ N) (t : ByteArray) (ht : t.size ≤ 462) :
    Calls Tryz.prog 28 #[.pointer (some ⟨i.p, 0, none⟩), .string t] w (PT i w own (st.write t).1 (.tuple #[.agg #[.int .i64 (st.write t).2.1.place, .string (st.write t).2.1.sum], .int .i64 (st.write t).2.2])) := by
  cases hf : st.s.free with
  | none =>
    have he : st.write t = (st, ⟨-1, ⟨#[]⟩⟩, 5) := by unfold PS.write; rw [hf]
    rw [he]
    exact write_none h ok hn (by rw [hP.1.sf, hP.1.sl]; omega) hf t ht
  | some K =>
    have he : (st.write t).2.2 = 0 := by unfold PS.write; rw [hf]
    rw [he]
    exact write_some h ok hn hf t ht
theorem PlayI.writes {N n : Nat} {all : List Pg} {st : PS} (h : PlayI N all st) (hm : 1 ≤ st.most) (ok : st.okN n) (hN : 2 ≤ N) (t : ByteArray) (ht : t.size ≤ 462) :
    (st.write t).1.okN (n + 3) ∧ (st.write t).1.most = st.most ∧ (((st.write t).2.2 = 0 ∧ all.length < N - 2 ∧ PlayI N (all ++ [⟨(st.write t).2.1, t, true, false⟩]) (st.write t).1 ∧ 0 ≤ (st.write t).2.1.place ∧ (st.write t).2.1.place < N ∧ (st.write t).2.1.sum.size = 32) ∨ ((st.write t).2.2 = 5 ∧ (st.write t).1 = st ∧ all.length = N - 2)) := by
  rcases h.1.full hN with ⟨hf, hl⟩ | ⟨⟨K, hf⟩, hl⟩
  · have he : st.write t = (st, ⟨-1, ⟨#[]⟩⟩, 5) := by unfold PS.write; rw [hf]
    rw [he]
    exact ⟨ok.mono (by omega), rfl, .inr ⟨rfl, rfl, hl⟩⟩
  · obtain ⟨h1, h2⟩ := h.write hm hf t ht
    have he : (st.write t).2.2 = 0 := by unfold PS.write; rw [hf]
    have hp : (st.write t).2.1.place = (K : Int) := by unfold PS.write; rw [hf]
    have hs : (st.write t).2.1.sum.size = 32 := by unfold PS.write; rw [hf]; exact sumB_size _
    have hK := (SpS.free_some hf).2.1
    rw [h.1.sl] at hK
    exact ⟨PS.write_okN ok hf t ht, h2, .inl ⟨he, hl, h1, by rw [hp]; omega, by rw [hp]; omega, hs⟩⟩
/-! ### A long value is cut into pages, the last one first -/
def lastAt (s : ByteArray) : Nat := (s.size - 1) / 400 * 400
def putW : Nat → PS → Ref → ByteArray → PS × Ref × Int
  | 0, st, r, _ => (st, r, 0)
  | k + 1, st, r, s =>
    if s.size = 0 then (st, r, 0)
    else if (st.write (bput ⟨r, s.extract (lastAt s) s.size⟩)).2.2 ≠ 0 then ((st.write (bput ⟨r, s.extract (lastAt s) s.size⟩)).1, ⟨-1, ⟨#[]⟩⟩, (st.write (bput ⟨r, s.extract (lastAt s) s.size⟩)).2.2)
    else putW k (st.write (bput ⟨r, s.extract (lastAt s) s.size⟩)).1 (st.write (bput ⟨r, s.extract (lastAt s) s.size⟩)).2.1 (s.extract 0 (lastAt s))
theorem last_size (s : ByteArray) (h : 0 < s.size) : lastAt s < s.size ∧ (s.extract (lastAt s) s.size).size ≤ 400 ∧ (s.extract 0 (lastAt s)).size = lastAt s := by
  unfold lastAt
  refine ⟨by omega, ?_, ?_⟩
  · rw [ByteArray.size_extract]; omega
  · rw [ByteArray.size_extract]; omega
/-- A page's reference that the next page can hold. -/
def NextOk (N : Nat) (r : Ref) : Prop := -1 ≤ r.place ∧ r.place < N ∧ r.sum.size ≤ 32
theorem bput_next {N : Nat} (hN : N ≤ 16000) {r : Ref} (hr : NextOk N r) (s : ByteArray) (h : 0 < s.size) : (bput ⟨r, s.extract (lastAt s) s.size⟩).size ≤ 462 :=
  bput_size _ (by have := hr.2.1; show r.place < 16000; omega) hr.2.2 (last_size s h).2.1
theorem putW_law {N : Nat} (hN : 2 ≤ N) (hN2 : N ≤ 16000) : ∀ (q : Nat) (st : PS) (r : Ref) (s : ByteArray) (n : Nat) (all : List Pg), PlayI N all st → 1 ≤ st.most → st.okN n → NextOk N r → s.size ≤ 400 * q →
    ((s.size + 399) / 400 + all.length ≤ N - 2 → (putW q st r s).2.2 = 0) ∧ (N - 2 < (s.size + 399) / 400 + all.length → all.length ≤ N - 2 → (putW q st r s).2.2 = 5) ∧ (∃ xs, (∀ x ∈ xs, x.fresh = true ∧ x.old = false) ∧ PlayI N (all ++ xs) (putW q st r s).1) ∧ (putW q st r s).1.most = st.most ∧ (putW q st r s).1.okN (n + 3 * q)
  | 0, st, r, s, n, all, hP, hm, ok, hr, hs => by
    have h0 : s.size = 0 := by omega
    refine ⟨fun _ => rfl, fun h h2 => ?_, ⟨[], by simp, by simpa [putW] using hP⟩, rfl, ok⟩
    rw [h0] at h; omega
  | q + 1, st, r, s, n, all, hP, hm, ok, hr, hs => by
    unfold putW
    by_cases h0 : s.size = 0
    · rw [if_pos h0]
      refine ⟨fun _ => rfl, fun h h2 => ?_, ⟨[], by simp, by simpa using hP⟩, rfl, ok.mono (by omega)⟩
      rw [h0] at h; omega
    · rw [if_neg h0]
      have hp : 0 < s.size := by omega
      obtain ⟨l1, l2, l3⟩ := last_size s hp
      obtain ⟨w1, w2, w3⟩ := hP.writes hm ok hN (bput ⟨r, s.extract (lastAt s) s.size⟩) (bput_next hN2 hr s hp)
      generalize bput ⟨r, s.extract (lastAt s) s.size⟩ = t at *
      rcases w3 with ⟨e, hl, hP2, p0, p1, p2⟩ | ⟨e, e2, hl⟩
      · rw [if_neg (by rw [e]; simp)]
        have hlast : lastAt s = (s.size - 1) / 400 * 400 := rfl
        obtain ⟨i1, i2, ⟨xs, i3, i4⟩, i5, i6⟩ := putW_law hN hN2 q (st.write t).1 (st.write t).2.1 (s.extract 0 (lastAt s)) (n + 3) _ hP2 (by rw [w2]; exact hm) w1 ⟨by omega, p1, by omega⟩ (by rw [l3, hlast]; omega)
        rw [l3, List.length_append, List.length_singleton] at i1 i2
        refine ⟨fun h => i1 (by omega), fun h h2 => i2 (by omega) (by omega), ⟨_ :: xs, fun x hx => ?_, by rw [List.append_cons]; exact i4⟩, i5.trans w2, i6.mono (by omega)⟩
        rcases List.mem_cons.1 hx with rfl | hx
        · exact ⟨rfl, rfl⟩
        · exact i3 x hx
      · rw [if_pos (by rw [e]; decide)]
        dsimp only
        rw [e, e2]
        refine ⟨fun h => ?_, fun _ _ => rfl, ⟨[], by simp, by simpa using hP⟩, rfl, ok.mono (by omega)⟩
        omega
theorem Two.set1 {w w1 w2 : World} {i : Ids} {st : PS} {own o1 : Nat → Nat} {g : Nat} {t : TypeId} {z cs ds : Array Value} (h : Two w w1 i st own g t z cs o1) (hg : w.heap.size ≤ g) (ho : Only w1 w2 [g + 1]) (hb : Blk w2 (g + 1) t ds) : Two w w2 i st own g t z ds (mark w1 o1 0) := by
  obtain ⟨h2, k2⟩ := mk_off h.sys h.kp (g + 1) h.z1 (by omega) (by omega) ho
  exact ⟨h2, k2, ho.blk h.b0 (by simp), hb, by rw [mark_old h.b0.lt]; exact h.z0, by rw [mark_old h.b1.lt]; exact h.z1⟩
theorem Two.none {w w1 w2 : World} {i : Ids} {st : PS} {own o1 : Nat → Nat} {g : Nat} {t : TypeId} {z cs : Array Value} (h : Two w w1 i st own g t z cs o1) (ho : Only w1 w2 []) : Two w w2 i st own g t z cs (mark w1 o1 0) :=
  h.step (h.sys.none_step ho).1 (h.sys.none_step ho).2

end Go.Proofs.YtimpjlnbbdfehaaGreatDoor
namespace Go.Proofs.YtimpjlnbbdfehaaGreatDoor
open Go.RowKit Go.Shelf Go.Lib Go.Sort
set_option linter.unusedVariables false
attribute [local go_sem ↓] shr_32_1 shl_32_1 shr_32_2 shl_32_2 shr_32_3 shl_32_3 shr_32_4 shl_32_4 shr_32_5 shl_32_5 shr_32_6 shl_32_6 shr_32_7 shl_32_7 shr_32_8 shl_32_8 shr_32_9 shl_32_9 shr_32_10 shl_32_10 shr_32_11 shl_32_11 shr_32_12 shl_32_12 shr_32_13 shl_32_13 shr_32_14 shl_32_14 shr_32_15 shl_32_15 shr_32_16 shl_32_16 shr_32_17 shl_32_17 shr_32_18 shl_32_18 shr_32_19 shl_32_19 shr_32_20 shl_32_20 shr_32_21 shl_32_21 shr_32_22 shl_32_22 shr_32_23 shl_32_23 shr_32_24 shl_32_24 shr_32_25 shl_32_25 shr_32_26 shl_32_26 shr_32_27 shl_32_27 shr_32_28 shl_32_28 shr_32_29 shl_32_29 shr_32_30 shl_32_30 shr_32_31 shl_32_31 shr_64_3 shl_64_3 shr_64_7 shl_64_7 shr_64_8 shl_64_8 shr_64_16 shl_64_16 shr_64_24 shl_64_24 shr_64_32 shl_64_32 shr_64_40 shl_64_40 shr_64_48 shl_64_48 shr_64_56 shl_64_56
attribute [local go_sem] add_u32 add_u64 and_u8 or_u8 xor_u8 and_u32 or_u32 xor_u32 and_u64 or_u64 xor_u64 conv_32_8 conv_64_8 conv_64_32 conv_8_32 conv_8_64 conv_32_64

/-- Two boxes, and a third one that is to be filled. -/
structure Tre (w w' : World) (i : Ids) (st : PS) (own : Nat → Nat) (g : Nat) (z cs : Array Value) (own' : Nat → Nat) (k : Nat) : Prop where
  two : Two w w' i st own g 54 z cs own'
  box : Blk w' k 54 #[.int .i64 0, .string ⟨#[]⟩]
  zk : own' k = 0
  gt : g + 1 < k
section
variable {w w1 w2 : World} {i : Ids} {st st2 : PS} {own o1 o2 : Nat → Nat} {g k : Nat} {z cs : Array Value}
theorem Two.tre (h : Two w w1 i st own g 54 z cs o1) : Tre w (w1.alloc (.cells #[.int .i64 0, .string ⟨#[]⟩] 54)) i st own g z cs (mark w1 o1 0) w1.heap.size :=
  ⟨h.none ((Only.refl w1 []).alloc _), Blk.new w1 54 _, mark_new (Nat.le_refl _), h.b1.lt⟩
theorem Tre.step (h : Tre w w1 i st own g z cs o1 k) (hs : SysC w2 i st2 o2) (hk : Keeps w1 w2 o1 o2) : Tre w w2 i st2 own g z cs o2 k :=
  ⟨h.two.step hs hk, hk.blk h.box h.zk, (hk.same _ h.box.lt).trans h.zk, h.gt⟩
theorem Tre.none (h : Tre w w1 i st own g z cs o1 k) (ho : Only w1 w2 []) : Tre w w2 i st own g z cs (mark w1 o1 0) k :=
  h.step (h.two.sys.none_step ho).1 (h.two.sys.none_step ho).2
/-- The third one is filled: what is left is the two. -/
theorem Tre.fill (h : Tre w w1 i st own g z cs o1 k) (hg : w.heap.size ≤ g) (ds : Array Value) : Two w (w1.setRow k ds) i st own g 54 z cs (mark w1 o1 0) ∧ Blk (w1.setRow k ds) k 54 ds := by
  have ho : Only w1 (w1.setRow k ds) [k] := only_setRow (Only.refl _ _) (List.mem_singleton.2 rfl) ds
  have hk := h.gt
  obtain ⟨h2, k2⟩ := mk_off h.two.sys h.two.kp k h.zk (by omega) (by omega) ho
  exact ⟨⟨h2, k2, ho.blk h.two.b0 (by simp; omega), ho.blk h.two.b1 (by simp; omega), by rw [mark_old h.two.b0.lt]; exact h.two.z0, by rw [mark_old h.two.b1.lt]; exact h.two.z1⟩, h.box.row ds⟩
end
set_option maxHeartbeats 16000000 in
set_option maxRecDepth 100000 in
theorem put_ok {w : World} {i : Ids} {st0 : PS} {own : Nat → Nat} {n N : Nat} {all0 : List Pg} (h : SysC w i st0 own) (ok : st0.okN n) (hn : n ≤ 100000) (hP : PlayI N all0 st0) (hm : 1 ≤ st0.most) (hN : 2 ≤ N) (hN2 : N ≤ 16000) (s0 : ByteArray) (hs0 : 0 < s0.size) (hs1 : s0.size ≤ 4096) :
    Calls Tryz.prog 38 #[.pointer (some ⟨i.p, 0, none⟩), .string s0] w (PT i w own (putW 11 st0 ⟨-1, ⟨#[]⟩⟩ s0).1 (.tuple #[.agg #[.int .i64 (putW 11 st0 ⟨-1, ⟨#[]⟩⟩ s0).2.1.place, .string (putW 11 st0 ⟨-1, ⟨#[]⟩⟩ s0).2.1.sum], .int .i64 (putW 11 st0 ⟨-1, ⟨#[]⟩⟩ s0).2.2])) := by
  have hA : Blk ((w.alloc (.cells #[.int .i64 0, .string ⟨#[]⟩] 54)).alloc (.cells #[.int .i64 0, .string ⟨#[]⟩] 54)) (w.heap.size + 1) 54 #[.int .i64 0, .string ⟨#[]⟩] := blk_new1 w _ 54 _
  obtain ⟨own1, h1⟩ := two_boxes h 54 #[.int .i64 0, .string ⟨#[]⟩] #[.int .i64 0, .string ⟨#[]⟩] #[.int .i64 (-1), .string ⟨#[]⟩]
  obtain ⟨res, hres⟩ : ∃ res, res = putW 11 st0 ⟨-1, ⟨#[]⟩⟩ s0 := ⟨_, rfl⟩
  rw [← hres]
  have HRS := Lib.hid hres
  have HT1 := Lib.hid h1
  have HA := Lib.hid hA
  have HOK := Lib.hid ok
  have HPI := Lib.hid hP
  have HMO := Lib.hid hm
  have HW : Hid (0 < w.heap.size) := h.salts.1
  have HN : Hid (2 ≤ N ∧ N ≤ 16000) := ⟨hN, hN2⟩
  have HS0 : Hid (s0.size ≤ 4096) := hs1
  have hq0 : s0.toList.isEmpty = false := by rw [str_nil]; exact decide_eq_false (fun e => by rw [e] at hs0; exact absurd hs0 (by decide))
  have hd0 : decide ((4096 : Int) < (s0.size : Int)) = false := by simp; omega
  clear h ok hP hm h1 hA hres hN hN2 hs0 hs1
  go_enter Tryz.func38, Tryz.ntmps38
  go_wp2_with (first
    | (refine wpList_store_row rfl 54 (.tmp 6) (.tmp 10) (by rfl) (w.heap.size + 1) #[.int .i64 (-1), .string ⟨#[]⟩] (by rfl) (by rfl) 54 _ HA.out info54 (by rfl) (by simp [Value.oneCell']) ?_; generalize ((w.alloc (.cells #[.int .i64 0, .string ⟨#[]⟩] 54)).alloc (.cells #[.int .i64 0, .string ⟨#[]⟩] 54)).setRow (w.heap.size + 1) #[.int .i64 (-1), .string ⟨#[]⟩] = w1 at *)
    | fail)
  clear HA hq0 hd0
  go_loopg [1] 11 (fun q v1 wr => ∃ (st : PS) (r : Ref) (s : ByteArray) (own2 : Nat → Nat) (all : List Pg), v1 = .string s ∧ res = putW q st r s ∧ s.size ≤ 400 * q ∧ s.size ≤ 4096 ∧ q ≤ 11 ∧ NextOk N r ∧ st.okN (n + 3 * (11 - q)) ∧ PlayI N all st ∧ 1 ≤ st.most ∧ Two w wr i st own w.heap.size 54 #[.int .i64 0, .string ⟨#[]⟩] #[.int .i64 r.place, .string r.sum] own2)
  case atStart => exact ⟨st0, ⟨-1, ⟨#[]⟩⟩, s0, own1, all0, rfl, HRS.out, by have := HS0.out; omega, HS0.out, Nat.le_refl _, ⟨by decide, by have := HN.out; show (-1 : Int) < _; omega, by decide⟩, by simpa using HOK.out, HPI.out, HMO.out, HT1.out⟩
  case round =>
    obtain ⟨st, r, s, own2, all, rfl, hres, hs1, hs2, hq, hr, hok, hP, hm, h2⟩ := hrel
    obtain ⟨⟨pl, sm⟩, hrr⟩ : ∃ r', r' = r := ⟨r, rfl⟩
    subst hrr
    have H2 := Lib.hid h2
    have RRES := Lib.hid hres
    have RS : Hid (s.size ≤ 400 * gk ∧ s.size ≤ 4096 ∧ gk ≤ 11) := ⟨hs1, hs2, hq⟩
    have RR := Lib.hid hr
    have ROK := Lib.hid hok
    have RPI := Lib.hid hP
    have RMO := Lib.hid hm
    dsimp only at H2
    clear hres hs1 hs2 hq hr hok hP hm h2 HRS HT1 HOK HPI HMO
    by_cases h0 : s.size = 0
    · have HR : Hid (res = (st, ⟨pl, sm⟩, 0)) := by
        cases gk with
        | zero => exact RRES.out
        | succ q => exact RRES.out.trans (if_pos h0)
      have HF := Lib.hid (H2.out.fin (Nat.le_refl _) HW.out #[.int .i64 pl, .string sm])
      have hd : decide (0 < s.size) = false := decide_eq_false (by omega)
      have hd2 : ¬ 0 < s.size := by omega
      clear h0 RRES
      go_wp2_with (first
        | (refine wpList_load_row rfl 54 (.tmp 6) (by rfl) (w.heap.size + 1) (by rfl) 54 #[.int .i64 pl, .string sm] (0, 0) _ H2.out.b1 Tryz.underlying54 rfl info54 ?_)
        | (refine wpList_store_row rfl 54 (.tmp 4) (.tmp 46) (by rfl) w.heap.size #[.int .i64 pl, .string sm] (by rfl) (by rfl) 54 _ H2.out.b0 info54 (by rfl) (by simp [Value.oneCell']) ?_))
      refine bodyPost_ret (results_cell_tmp (fn := Tryz.f38) rfl _ _ w.heap.size #[.int .i64 pl, .string sm] (by rfl) (run_loadVar_row _ _ _ _ _ _ _ (H2.out.b0.row _) Tryz.underlying54 rfl info54)) rfl ?_
      rw [HR.out]
      exact ⟨rfl, HF.out⟩
    · obtain ⟨q, rfl⟩ : ∃ q, gk = q + 1 := ⟨gk - 1, by have := RS.out; omega⟩
      have hp : 0 < s.size := by omega
      have hsz := RS.out.2.1
      have hd : decide ((0 : Int) < (s.size : Int)) = true := decide_eq_true (by omega)
      have HL := Lib.hid (last_size s hp)
      have HR := Lib.hid (RRES.out.trans (if_neg h0))
      have hfr : ((s.size : Int) - 1) / 400 * 400 = ((lastAt s : Nat) : Int) := by unfold lastAt; omega
      have HWR := Lib.hid (fun w2 own2 (h2 : SysC w2 i st own2) => write_any h2 ROK.out (by omega) RPI.out HN.out.1 (bput ⟨⟨pl, sm⟩, s.extract (lastAt s) s.size⟩) (bput_next HN.out.2 RR.out s hp))
      have HWS := Lib.hid (RPI.out.writes RMO.out ROK.out HN.out.1 (bput ⟨⟨pl, sm⟩, s.extract (lastAt s) s.size⟩) (bput_next HN.out.2 RR.out s hp))
      have HCP := Lib.hid (fun w2 (h : 0 < w2.heap.size) => cput_ok pl sm (s.extract (lastAt s) s.size) RR.out.1 (by have := RR.out.2.1; have := HN.out.2; dsimp only at *; omega) RR.out.2.2 (HL.out.2.1) w2 h)
      generalize bput ⟨⟨pl, sm⟩, s.extract (lastAt s) s.size⟩ = t at *
      generalize st.write t = x at *
      obtain ⟨st1, ⟨npl, nsm⟩, er⟩ := x
      dsimp only at HWR HWS HR
      have HFR : Hid (lastAt s + 400 ≤ s.size + 399 ∧ lastAt s ≤ 400 * q) := by have := RS.out; unfold lastAt; show _ ∧ _; omega
      clear h0 RRES
      go_wp2_with fail
      have hl1 := HL.out.1
      have hl2 : (s.extract (lastAt s) s.size).size ≤ 400 := HL.out.2.1
      generalize lastAt s = fr at *
      have hl3 : fr ≤ s.size := by omega
      have H3 := Lib.hid (H2.out.none ((Only.refl wr []).drewN 1))
      refine wp_region_fork (fun w' => w'.cell? ⟨w.heap.size + 1, 0, none⟩ = some (.int .i64 pl) ∧ w'.cell? ⟨w.heap.size + 1, 1, none⟩ = some (.string sm)) 13 (.take 0 (.take 1 (.take 2 (.take 3 (.take 4 (.take 5 (.fork 6 (.fork 7 (.take 8 (.take 9 (.take 10 (.run 11 (.run 12 .nil))))) 11 (.run 7 (.take 8 (.take 9 (.take 10 (.run 12 .nil)))))) 11 (.run 6 (.run 7 (.take 8 (.take 9 (.take 10 (.run 12 .nil))))))))))))) (by kernel_rfl) (by kernel_rfl) ⟨H3.out.b1.cell 0, H3.out.b1.cell 1⟩ ?_
      simp only [PlanT.ops, List.getD_cons_zero, List.getD_cons_succ, List.drop_succ_cons, List.drop_zero]
      (refine fork_take (v := ?_) rfl ?_ ?_; rotate_left; (rintro wS ⟨hS1, hS2⟩; (try dsimp only at hS1 hS2); go_simp; (try with_reducible rfl)); (try simp only [Act.put, List.setIfInBounds_toArray, List.set_cons_zero, List.set_cons_succ]))
      (refine fork_take (v := ?_) rfl ?_ ?_; rotate_left; (rintro wS ⟨hS1, hS2⟩; (try dsimp only at hS1 hS2); go_simp; (try with_reducible rfl)); (try simp only [Act.put, List.setIfInBounds_toArray, List.set_cons_zero, List.set_cons_succ]))
      (refine fork_take (v := ?_) rfl ?_ ?_; rotate_left; (rintro wS ⟨hS1, hS2⟩; (try dsimp only at hS1 hS2); go_simp; (try with_reducible rfl)); (try simp only [Act.put, List.setIfInBounds_toArray, List.set_cons_zero, List.set_cons_succ]))
      (refine fork_take (v := ?_) rfl ?_ ?_; rotate_left; (rintro wS ⟨hS1, hS2⟩; (try dsimp only at hS1 hS2); go_simp; (try with_reducible rfl)); (try simp only [Act.put, List.setIfInBounds_toArray, List.set_cons_zero, List.set_cons_succ]))
      (refine fork_take (v := ?_) rfl ?_ ?_; rotate_left; (rintro wS ⟨hS1, hS2⟩; (try dsimp only at hS1 hS2); go_simp; (try with_reducible rfl)); (try simp only [Act.put, List.setIfInBounds_toArray, List.set_cons_zero, List.set_cons_succ]))
      (refine fork_take (v := ?_) rfl ?_ ?_; rotate_left; (rintro wS ⟨hS1, hS2⟩; (try dsimp only at hS1 hS2); go_simp; (try with_reducible rfl)); (try simp only [Act.put, List.setIfInBounds_toArray, List.set_cons_zero, List.set_cons_succ]))
      refine fork_two ?_ ?_
      · skip
        refine fork_run rfl (fun K hK => ?_)
        go_simp
        refine (HCP.out (wr.drew) (Nat.lt_of_lt_of_le HW.out H3.out.kp.size)).mono ?_
        rintro x w4 ⟨rfl, hb4⟩
        have H4 := Lib.hid (H3.out.none (only_of_below hb4))
        refine hK.out _ _ ⟨H4.out.b1.cell 0, H4.out.b1.cell 1⟩ ?_
        clear hK K
        try simp only [Act.put, List.setIfInBounds_toArray, List.set_cons_zero, List.set_cons_succ]
        refine fork_two ?_ ?_
        · skip
          refine fork_run rfl (fun K hK => ?_)
          go_simp
          refine (HWR.out (w4) _ H4.out.sys).mono ?_
          rintro x w5 ⟨rfl, own5, h5, k5⟩
          have H5 := Lib.hid (H4.out.step h5 k5)
          refine hK.out _ _ ⟨H5.out.b1.cell 0, H5.out.b1.cell 1⟩ ?_
          clear hK K
          try simp only [Act.put, List.setIfInBounds_toArray, List.set_cons_zero, List.set_cons_succ]
          (refine fork_take (v := ?_) rfl ?_ ?_; rotate_left; (rintro wS ⟨hS1, hS2⟩; (try dsimp only at hS1 hS2); go_simp; (try with_reducible rfl)); (try simp only [Act.put, List.setIfInBounds_toArray, List.set_cons_zero, List.set_cons_succ]))
          (refine fork_take (v := ?_) rfl ?_ ?_; rotate_left; (rintro wS ⟨hS1, hS2⟩; (try dsimp only at hS1 hS2); go_simp; (try with_reducible rfl)); (try simp only [Act.put, List.setIfInBounds_toArray, List.set_cons_zero, List.set_cons_succ]))
          (refine fork_take (v := ?_) rfl ?_ ?_; rotate_left; (rintro wS ⟨hS1, hS2⟩; (try dsimp only at hS1 hS2); go_simp; (try with_reducible rfl)); (try simp only [Act.put, List.setIfInBounds_toArray, List.set_cons_zero, List.set_cons_succ]))
          refine fork_run rfl (fun K hK => ?_)
          go_simp
          have H6 : Hid (Tre _ (w5.alloc (.cells #[.int .i64 0, .string ⟨#[]⟩] 54)) _ _ _ _ _ _ _ (w5.heap.size)) := H5.out.tre
          refine hK.out _ _ ⟨H6.out.two.b1.cell 0, H6.out.two.b1.cell 1⟩ ?_
          clear hK K
          try simp only [Act.put, List.setIfInBounds_toArray, List.set_cons_zero, List.set_cons_succ]
          have HFI := Lib.hid (H6.out.fill (Nat.le_refl _) #[.int .i64 npl, .string nsm])
          have HBX := Lib.hid H6.out.box
          have HGT := Lib.hid H6.out.gt
          clear H6
          refine fork_run rfl (fun K hK => ?_)
          refine wp_store_row 54 (.tmp 8) (.tmp 36) rfl (w5.heap.size) #[.int .i64 npl, .string nsm] (by rfl) (by rfl) 54 _ HBX.out info54 (by rfl) (by simp [Value.oneCell']) ?_
          generalize World.setRow (w5.alloc (.cells #[.int .i64 0, .string ⟨#[]⟩] 54)) (w5.heap.size) #[.int .i64 npl, .string nsm] = w9 at *
          refine hK.out _ _ ⟨HFI.out.1.b1.cell 0, HFI.out.1.b1.cell 1⟩ ?_
          clear hK K
          try simp only [Act.put, List.setIfInBounds_toArray, List.set_cons_zero, List.set_cons_succ]
          refine fork_nil ?_
          go_wp2_with fail
          generalize (w5.heap.size) = b8 at *
          refine NoPanic.normal ?_
          clear HBX
          rcases HWS.out.2.2 with ⟨her, hl, hP2, p0, p1, p2⟩ | ⟨her, hst, hl⟩
          · subst her
            have HR2 := Lib.hid (HR.out.trans (if_neg (by simp)))
            have HP2 := Lib.hid hP2
            have HNX : Hid (NextOk N ⟨npl, nsm⟩) := ⟨by show -1 ≤ npl; omega, p1, by show nsm.size ≤ 32; omega⟩
            clear HR hP2 p0 p1 p2 hl
            go_wp2_with fail
            have H10 : Hid (Two w (w9.drew.setRow (w.heap.size + 1) #[.int .i64 npl, .string nsm]) i st1 own w.heap.size 54 #[.int .i64 0, .string ⟨#[]⟩] #[.int .i64 npl, .string nsm] _) := HFI.out.1.set1 (Nat.le_refl _) (only_setRow ((Only.refl w9 [w.heap.size + 1]).drewN 1) (List.mem_singleton.2 rfl) _) ((HFI.out.1.b1.drewN 1).row _)
            refine wp_region_plan (fun w' => w'.cell? ⟨b8, 0, none⟩ = some (.int .i64 npl) ∧ w'.cell? ⟨b8, 1, none⟩ = some (.string nsm)) 5 [(true, 0), (true, 1), (true, 2), (true, 3), (false, 4)] (by kernel_rfl) (by kernel_rfl) ⟨HFI.out.2.drew.cell 0, HFI.out.2.drew.cell 1⟩ ?_
            simp only [List.map_cons, List.map_nil, List.getD_cons_zero, List.getD_cons_succ, List.drop_succ_cons, List.drop_zero]
            (refine plan_take (v := ?_) rfl ?_ ?_; rotate_left; (rintro wS ⟨hS1, hS2⟩; (try dsimp only at hS1 hS2); go_simp; try with_reducible rfl); simp only [Act.put, List.setIfInBounds_toArray, List.set_cons_zero, List.set_cons_succ])
            (refine plan_take (v := ?_) rfl ?_ ?_; rotate_left; (rintro wS ⟨hS1, hS2⟩; (try dsimp only at hS1 hS2); go_simp; try with_reducible rfl); simp only [Act.put, List.setIfInBounds_toArray, List.set_cons_zero, List.set_cons_succ])
            (refine plan_take (v := ?_) rfl ?_ ?_; rotate_left; (rintro wS ⟨hS1, hS2⟩; (try dsimp only at hS1 hS2); go_simp; try with_reducible rfl); simp only [Act.put, List.setIfInBounds_toArray, List.set_cons_zero, List.set_cons_succ])
            (refine plan_take (v := ?_) rfl ?_ ?_; rotate_left; (rintro wS ⟨hS1, hS2⟩; (try dsimp only at hS1 hS2); go_simp; try with_reducible rfl); simp only [Act.put, List.setIfInBounds_toArray, List.set_cons_zero, List.set_cons_succ])
            refine plan_run rfl (fun K hK => ?_)
            refine wp_store_row 54 (.tmp 6) (.tmp 42) rfl (w.heap.size + 1) #[.int .i64 npl, .string nsm] (by rfl) (by rfl) 54 _ (HFI.out.1.b1.drewN 1) info54 (by rfl) (by simp [Value.oneCell']) ?_
            refine hK.out _ _ ⟨(HFI.out.2.drew.farRow (Nat.ne_of_gt HGT.out) _).cell 0, (HFI.out.2.drew.farRow (Nat.ne_of_gt HGT.out) _).cell 1⟩ ?_
            clear hK K
            try simp only [Act.put, List.setIfInBounds_toArray, List.set_cons_zero, List.set_cons_succ]
            refine plan_nil ?_
            go_wp2_with fail
            refine NoPanic.normal ?_
            go_wp2_with fail
            go_roundg q
            exact ⟨st1, ⟨npl, nsm⟩, s.extract 0 fr, _, _, rfl, HR2.out, by have := HL.out.2.2; have := RS.out; have := HFR.out; omega, by have := HL.out.2.2; omega, by have := RS.out; omega, HNX.out, HWS.out.1.mono (by have := RS.out; omega), HP2.out, by rw [HWS.out.2.1]; exact RMO.out, H10.out⟩
            exact Nat.lt_succ_self _
          · subst her
            have HR2 := Lib.hid (HR.out.trans (if_pos (by decide)))
            have HF := Lib.hid (HFI.out.1.fin (Nat.le_refl _) HW.out #[.int .i64 (-1), .string ⟨#[]⟩])
            clear HR hst hl
            go_wp2_with (refine wpList_store_row rfl 54 (.tmp 4) (.tmp 40) (by rfl) w.heap.size #[.int .i64 (-1), .string ⟨#[]⟩] (by rfl) (by rfl) 54 _ HFI.out.1.b0 info54 (by rfl) (by simp [Value.oneCell']) ?_)
            refine bodyPost_ret (results_cell_tmp (fn := Tryz.f38) rfl _ _ w.heap.size #[.int .i64 (-1), .string ⟨#[]⟩] (by rfl) (run_loadVar_row _ _ _ _ _ _ _ (HFI.out.1.b0.row _) Tryz.underlying54 rfl info54)) rfl ?_
            rw [HR2.out]
            exact ⟨rfl, HF.out⟩
        · skip
          refine fork_run rfl (fun K hK => ?_)
          go_simp
          have H5 : Hid (Tre _ (w4.alloc (.cells #[.int .i64 0, .string ⟨#[]⟩] 54)) _ _ _ _ _ _ _ (w4.heap.size)) := H4.out.tre
          refine hK.out _ _ ⟨H5.out.two.b1.cell 0, H5.out.two.b1.cell 1⟩ ?_
          clear hK K
          try simp only [Act.put, List.setIfInBounds_toArray, List.set_cons_zero, List.set_cons_succ]
          refine fork_run rfl (fun K hK => ?_)
          go_simp
          refine (HWR.out (w4.alloc (.cells #[.int .i64 0, .string ⟨#[]⟩] 54)) _ H5.out.two.sys).mono ?_
          rintro x w6 ⟨rfl, own6, h6, k6⟩
          have H6 := Lib.hid (H5.out.step h6 k6)
          refine hK.out _ _ ⟨H6.out.two.b1.cell 0, H6.out.two.b1.cell 1⟩ ?_
          clear hK K
          try simp only [Act.put, List.setIfInBounds_toArray, List.set_cons_zero, List.set_cons_succ]
          (refine fork_take (v := ?_) rfl ?_ ?_; rotate_left; (rintro wS ⟨hS1, hS2⟩; (try dsimp only at hS1 hS2); go_simp; (try with_reducible rfl)); (try simp only [Act.put, List.setIfInBounds_toArray, List.set_cons_zero, List.set_cons_succ]))
          (refine fork_take (v := ?_) rfl ?_ ?_; rotate_left; (rintro wS ⟨hS1, hS2⟩; (try dsimp only at hS1 hS2); go_simp; (try with_reducible rfl)); (try simp only [Act.put, List.setIfInBounds_toArray, List.set_cons_zero, List.set_cons_succ]))
          (refine fork_take (v := ?_) rfl ?_ ?_; rotate_left; (rintro wS ⟨hS1, hS2⟩; (try dsimp only at hS1 hS2); go_simp; (try with_reducible rfl)); (try simp only [Act.put, List.setIfInBounds_toArray, List.set_cons_zero, List.set_cons_succ]))
          have HFI := Lib.hid (H6.out.fill (Nat.le_refl _) #[.int .i64 npl, .string nsm])
          have HBX := Lib.hid H6.out.box
          have HGT := Lib.hid H6.out.gt
          clear H6
          refine fork_run rfl (fun K hK => ?_)
          refine wp_store_row 54 (.tmp 8) (.tmp 36) rfl (w4.heap.size) #[.int .i64 npl, .string nsm] (by rfl) (by rfl) 54 _ HBX.out info54 (by rfl) (by simp [Value.oneCell']) ?_
          generalize World.setRow (w6) (w4.heap.size) #[.int .i64 npl, .string nsm] = w9 at *
          refine hK.out _ _ ⟨HFI.out.1.b1.cell 0, HFI.out.1.b1.cell 1⟩ ?_
          clear hK K
          try simp only [Act.put, List.setIfInBounds_toArray, List.set_cons_zero, List.set_cons_succ]
          refine fork_nil ?_
          go_wp2_with fail
          generalize (w4.heap.size) = b8 at *
          refine NoPanic.normal ?_
          clear HBX
          rcases HWS.out.2.2 with ⟨her, hl, hP2, p0, p1, p2⟩ | ⟨her, hst, hl⟩
          · subst her
            have HR2 := Lib.hid (HR.out.trans (if_neg (by simp)))
            have HP2 := Lib.hid hP2
            have HNX : Hid (NextOk N ⟨npl, nsm⟩) := ⟨by show -1 ≤ npl; omega, p1, by show nsm.size ≤ 32; omega⟩
            clear HR hP2 p0 p1 p2 hl
            go_wp2_with fail
            have H10 : Hid (Two w (w9.drew.setRow (w.heap.size + 1) #[.int .i64 npl, .string nsm]) i st1 own w.heap.size 54 #[.int .i64 0, .string ⟨#[]⟩] #[.int .i64 npl, .string nsm] _) := HFI.out.1.set1 (Nat.le_refl _) (only_setRow ((Only.refl w9 [w.heap.size + 1]).drewN 1) (List.mem_singleton.2 rfl) _) ((HFI.out.1.b1.drewN 1).row _)
            refine wp_region_plan (fun w' => w'.cell? ⟨b8, 0, none⟩ = some (.int .i64 npl) ∧ w'.cell? ⟨b8, 1, none⟩ = some (.string nsm)) 5 [(true, 0), (true, 1), (true, 2), (true, 3), (false, 4)] (by kernel_rfl) (by kernel_rfl) ⟨HFI.out.2.drew.cell 0, HFI.out.2.drew.cell 1⟩ ?_
            simp only [List.map_cons, List.map_nil, List.getD_cons_zero, List.getD_cons_succ, List.drop_succ_cons, List.drop_zero]
            (refine plan_take (v := ?_) rfl ?_ ?_; rotate_left; (rintro wS ⟨hS1, hS2⟩; (try dsimp only at hS1 hS2); go_simp; try with_reducible rfl); simp only [Act.put, List.setIfInBounds_toArray, List.set_cons_zero, List.set_cons_succ])
            (refine plan_take (v := ?_) rfl ?_ ?_; rotate_left; (rintro wS ⟨hS1, hS2⟩; (try dsimp only at hS1 hS2); go_simp; try with_reducible rfl); simp only [Act.put, List.setIfInBounds_toArray, List.set_cons_zero, List.set_cons_succ])
            (refine plan_take (v := ?_) rfl ?_ ?_; rotate_left; (rintro wS ⟨hS1, hS2⟩; (try dsimp only at hS1 hS2); go_simp; try with_reducible rfl); simp only [Act.put, List.setIfInBounds_toArray, List.set_cons_zero, List.set_cons_succ])
            (refine plan_take (v := ?_) rfl ?_ ?_; rotate_left; (rintro wS ⟨hS1, hS2⟩; (try dsimp only at hS1 hS2); go_simp; try with_reducible rfl); simp only [Act.put, List.setIfInBounds_toArray, List.set_cons_zero, List.set_cons_succ])
            refine plan_run rfl (fun K hK => ?_)
            refine wp_store_row 54 (.tmp 6) (.tmp 42) rfl (w.heap.size + 1) #[.int .i64 npl, .string nsm] (by rfl) (by rfl) 54 _ (HFI.out.1.b1.drewN 1) info54 (by rfl) (by simp [Value.oneCell']) ?_
            refine hK.out _ _ ⟨(HFI.out.2.drew.farRow (Nat.ne_of_gt HGT.out) _).cell 0, (HFI.out.2.drew.farRow (Nat.ne_of_gt HGT.out) _).cell 1⟩ ?_
            clear hK K
            try simp only [Act.put, List.setIfInBounds_toArray, List.set_cons_zero, List.set_cons_succ]
            refine plan_nil ?_
            go_wp2_with fail
            refine NoPanic.normal ?_
            go_wp2_with fail
            go_roundg q
            exact ⟨st1, ⟨npl, nsm⟩, s.extract 0 fr, _, _, rfl, HR2.out, by have := HL.out.2.2; have := RS.out; have := HFR.out; omega, by have := HL.out.2.2; omega, by have := RS.out; omega, HNX.out, HWS.out.1.mono (by have := RS.out; omega), HP2.out, by rw [HWS.out.2.1]; exact RMO.out, H10.out⟩
            exact Nat.lt_succ_self _
          · subst her
            have HR2 := Lib.hid (HR.out.trans (if_pos (by decide)))
            have HF := Lib.hid (HFI.out.1.fin (Nat.le_refl _) HW.out #[.int .i64 (-1), .string ⟨#[]⟩])
            clear HR hst hl
            go_wp2_with (refine wpList_store_row rfl 54 (.tmp 4) (.tmp 40) (by rfl) w.heap.size #[.int .i64 (-1), .string ⟨#[]⟩] (by rfl) (by rfl) 54 _ HFI.out.1.b0 info54 (by rfl) (by simp [Value.oneCell']) ?_)
            refine bodyPost_ret (results_cell_tmp (fn := Tryz.f38) rfl _ _ w.heap.size #[.int .i64 (-1), .string ⟨#[]⟩] (by rfl) (run_loadVar_row _ _ _ _ _ _ _ (HFI.out.1.b0.row _) Tryz.underlying54 rfl info54)) rfl ?_
            rw [HR2.out]
            exact ⟨rfl, HF.out⟩
      · skip
        refine fork_run rfl (fun K hK => ?_)
        go_simp
        have H4 : Hid (Tre _ (wr.drew.alloc (.cells #[.int .i64 0, .string ⟨#[]⟩] 54)) _ _ _ _ _ _ _ (wr.heap.size)) := H3.out.tre
        refine hK.out _ _ ⟨H4.out.two.b1.cell 0, H4.out.two.b1.cell 1⟩ ?_
        clear hK K
        try simp only [Act.put, List.setIfInBounds_toArray, List.set_cons_zero, List.set_cons_succ]
        refine fork_run rfl (fun K hK => ?_)
        go_simp
        refine (HCP.out (wr.drew.alloc (.cells #[.int .i64 0, .string ⟨#[]⟩] 54)) (Nat.lt_of_lt_of_le HW.out H4.out.two.kp.size)).mono ?_
        rintro x w5 ⟨rfl, hb5⟩
        have H5 := Lib.hid (H4.out.none (only_of_below hb5))
        refine hK.out _ _ ⟨H5.out.two.b1.cell 0, H5.out.two.b1.cell 1⟩ ?_
        clear hK K
        try simp only [Act.put, List.setIfInBounds_toArray, List.set_cons_zero, List.set_cons_succ]
        refine fork_run rfl (fun K hK => ?_)
        go_simp
        refine (HWR.out (w5) _ H5.out.two.sys).mono ?_
        rintro x w6 ⟨rfl, own6, h6, k6⟩
        have H6 := Lib.hid (H5.out.step h6 k6)
        refine hK.out _ _ ⟨H6.out.two.b1.cell 0, H6.out.two.b1.cell 1⟩ ?_
        clear hK K
        try simp only [Act.put, List.setIfInBounds_toArray, List.set_cons_zero, List.set_cons_succ]
        (refine fork_take (v := ?_) rfl ?_ ?_; rotate_left; (rintro wS ⟨hS1, hS2⟩; (try dsimp only at hS1 hS2); go_simp; (try with_reducible rfl)); (try simp only [Act.put, List.setIfInBounds_toArray, List.set_cons_zero, List.set_cons_succ]))
        (refine fork_take (v := ?_) rfl ?_ ?_; rotate_left; (rintro wS ⟨hS1, hS2⟩; (try dsimp only at hS1 hS2); go_simp; (try with_reducible rfl)); (try simp only [Act.put, List.setIfInBounds_toArray, List.set_cons_zero, List.set_cons_succ]))
        (refine fork_take (v := ?_) rfl ?_ ?_; rotate_left; (rintro wS ⟨hS1, hS2⟩; (try dsimp only at hS1 hS2); go_simp; (try with_reducible rfl)); (try simp only [Act.put, List.setIfInBounds_toArray, List.set_cons_zero, List.set_cons_succ]))
        have HFI := Lib.hid (H6.out.fill (Nat.le_refl _) #[.int .i64 npl, .string nsm])
        have HBX := Lib.hid H6.out.box
        have HGT := Lib.hid H6.out.gt
        clear H6
        refine fork_run rfl (fun K hK => ?_)
        refine wp_store_row 54 (.tmp 8) (.tmp 36) rfl (wr.heap.size) #[.int .i64 npl, .string nsm] (by rfl) (by rfl) 54 _ HBX.out info54 (by rfl) (by simp [Value.oneCell']) ?_
        generalize World.setRow (w6) (wr.heap.size) #[.int .i64 npl, .string nsm] = w9 at *
        refine hK.out _ _ ⟨HFI.out.1.b1.cell 0, HFI.out.1.b1.cell 1⟩ ?_
        clear hK K
        try simp only [Act.put, List.setIfInBounds_toArray, List.set_cons_zero, List.set_cons_succ]
        refine fork_nil ?_
        go_wp2_with fail
        generalize (wr.heap.size) = b8 at *
        refine NoPanic.normal ?_
        clear HBX
        rcases HWS.out.2.2 with ⟨her, hl, hP2, p0, p1, p2⟩ | ⟨her, hst, hl⟩
        · subst her
          have HR2 := Lib.hid (HR.out.trans (if_neg (by simp)))
          have HP2 := Lib.hid hP2
          have HNX : Hid (NextOk N ⟨npl, nsm⟩) := ⟨by show -1 ≤ npl; omega, p1, by show nsm.size ≤ 32; omega⟩
          clear HR hP2 p0 p1 p2 hl
          go_wp2_with fail
          have H10 : Hid (Two w (w9.drew.setRow (w.heap.size + 1) #[.int .i64 npl, .string nsm]) i st1 own w.heap.size 54 #[.int .i64 0, .string ⟨#[]⟩] #[.int .i64 npl, .string nsm] _) := HFI.out.1.set1 (Nat.le_refl _) (only_setRow ((Only.refl w9 [w.heap.size + 1]).drewN 1) (List.mem_singleton.2 rfl) _) ((HFI.out.1.b1.drewN 1).row _)
          refine wp_region_plan (fun w' => w'.cell? ⟨b8, 0, none⟩ = some (.int .i64 npl) ∧ w'.cell? ⟨b8, 1, none⟩ = some (.string nsm)) 5 [(true, 0), (true, 1), (true, 2), (true, 3), (false, 4)] (by kernel_rfl) (by kernel_rfl) ⟨HFI.out.2.drew.cell 0, HFI.out.2.drew.cell 1⟩ ?_
          simp only [List.map_cons, List.map_nil, List.getD_cons_zero, List.getD_cons_succ, List.drop_succ_cons, List.drop_zero]
          (refine plan_take (v := ?_) rfl ?_ ?_; rotate_left; (rintro wS ⟨hS1, hS2⟩; (try dsimp only at hS1 hS2); go_simp; try with_reducible rfl); simp only [Act.put, List.setIfInBounds_toArray, List.set_cons_zero, List.set_cons_succ])
          (refine plan_take (v := ?_) rfl ?_ ?_; rotate_left; (rintro wS ⟨hS1, hS2⟩; (try dsimp only at hS1 hS2); go_simp; try with_reducible rfl); simp only [Act.put, List.setIfInBounds_toArray, List.set_cons_zero, List.set_cons_succ])
          (refine plan_take (v := ?_) rfl ?_ ?_; rotate_left; (rintro wS ⟨hS1, hS2⟩; (try dsimp only at hS1 hS2); go_simp; try with_reducible rfl); simp only [Act.put, List.setIfInBounds_toArray, List.set_cons_zero, List.set_cons_succ])
          (refine plan_take (v := ?_) rfl ?_ ?_; rotate_left; (rintro wS ⟨hS1, hS2⟩; (try dsimp only at hS1 hS2); go_simp; try with_reducible rfl); simp only [Act.put, List.setIfInBounds_toArray, List.set_cons_zero, List.set_cons_succ])
          refine plan_run rfl (fun K hK => ?_)
          refine wp_store_row 54 (.tmp 6) (.tmp 42) rfl (w.heap.size + 1) #[.int .i64 npl, .string nsm] (by rfl) (by rfl) 54 _ (HFI.out.1.b1.drewN 1) info54 (by rfl) (by simp [Value.oneCell']) ?_
          refine hK.out _ _ ⟨(HFI.out.2.drew.farRow (Nat.ne_of_gt HGT.out) _).cell 0, (HFI.out.2.drew.farRow (Nat.ne_of_gt HGT.out) _).cell 1⟩ ?_
          clear hK K
          try simp only [Act.put, List.setIfInBounds_toArray, List.set_cons_zero, List.set_cons_succ]
          refine plan_nil ?_
          go_wp2_with fail
          refine NoPanic.normal ?_
          go_wp2_with fail
          go_roundg q
          exact ⟨st1, ⟨npl, nsm⟩, s.extract 0 fr, _, _, rfl, HR2.out, by have := HL.out.2.2; have := RS.out; have := HFR.out; omega, by have := HL.out.2.2; omega, by have := RS.out; omega, HNX.out, HWS.out.1.mono (by have := RS.out; omega), HP2.out, by rw [HWS.out.2.1]; exact RMO.out, H10.out⟩
          exact Nat.lt_succ_self _
        · subst her
          have HR2 := Lib.hid (HR.out.trans (if_pos (by decide)))
          have HF := Lib.hid (HFI.out.1.fin (Nat.le_refl _) HW.out #[.int .i64 (-1), .string ⟨#[]⟩])
          clear HR hst hl
          go_wp2_with (refine wpList_store_row rfl 54 (.tmp 4) (.tmp 40) (by rfl) w.heap.size #[.int .i64 (-1), .string ⟨#[]⟩] (by rfl) (by rfl) 54 _ HFI.out.1.b0 info54 (by rfl) (by simp [Value.oneCell']) ?_)
          refine bodyPost_ret (results_cell_tmp (fn := Tryz.f38) rfl _ _ w.heap.size #[.int .i64 (-1), .string ⟨#[]⟩] (by rfl) (run_loadVar_row _ _ _ _ _ _ _ (HFI.out.1.b0.row _) Tryz.underlying54 rfl info54)) rfl ?_
          rw [HR2.out]
          exact ⟨rfl, HF.out⟩

end Go.Proofs.YtimpjlnbbdfehaaGreatDoor
namespace Go.Proofs.YtimpjlnbbdfehaaGreatDoor
open Go.RowKit Go.Shelf Go.Lib Go.Sort
set_option linter.unusedVariables false
attribute [local go_sem ↓] shr_32_1 shl_32_1 shr_32_2 shl_32_2 shr_32_3 shl_32_3 shr_32_4 shl_32_4 shr_32_5 shl_32_5 shr_32_6 shl_32_6 shr_32_7 shl_32_7 shr_32_8 shl_32_8 shr_32_9 shl_32_9 shr_32_10 shl_32_10 shr_32_11 shl_32_11 shr_32_12 shl_32_12 shr_32_13 shl_32_13 shr_32_14 shl_32_14 shr_32_15 shl_32_15 shr_32_16 shl_32_16 shr_32_17 shl_32_17 shr_32_18 shl_32_18 shr_32_19 shl_32_19 shr_32_20 shl_32_20 shr_32_21 shl_32_21 shr_32_22 shl_32_22 shr_32_23 shl_32_23 shr_32_24 shl_32_24 shr_32_25 shl_32_25 shr_32_26 shl_32_26 shr_32_27 shl_32_27 shr_32_28 shl_32_28 shr_32_29 shl_32_29 shr_32_30 shl_32_30 shr_32_31 shl_32_31 shr_64_3 shl_64_3 shr_64_7 shl_64_7 shr_64_8 shl_64_8 shr_64_16 shl_64_16 shr_64_24 shl_64_24 shr_64_32 shl_64_32 shr_64_40 shl_64_40 shr_64_48 shl_64_48 shr_64_56 shl_64_56
attribute [local go_sem] add_u32 add_u64 and_u8 or_u8 xor_u8 and_u32 or_u32 xor_u32 and_u64 or_u64 xor_u64 conv_32_8 conv_64_8 conv_64_32 conv_8_32 conv_8_64 conv_32_64

set_option maxHeartbeats 4000000 in
set_option maxRecDepth 100000 in
theorem lget_ok {w : World} {i : Ids} {st : PS} {own : Nat → Nat} {n : Nat} (h : SysC w i st own) (ok : st.okN n) (hn : n ≤ 100000) (hsm : st.small) (r : Ref) (hr : RefOk r) :
    Calls Tryz.prog 40 #[.pointer (some ⟨i.p, 0, none⟩), .agg #[.int .i64 r.place, .string r.sum]] w (PT i w own (bwalk 4097 st r ⟨#[]⟩).1 (.tuple #[.string (bwalk 4097 st r ⟨#[]⟩).2.1, .int .i64 (bwalk 4097 st r ⟨#[]⟩).2.2])) := by
  obtain ⟨h0, k0⟩ := h.box0 (.cells #[.int .i64 r.place, .string r.sum] 54)
  have HB : Hid (Blk (w.alloc (.cells #[.int .i64 r.place, .string r.sum] 54)) w.heap.size 54 #[.int .i64 r.place, .string r.sum]) := Blk.new w 54 _
  have HK := Lib.hid k0
  have HWK := Lib.hid (walk_ok h0 ok hn hsm r hr)
  clear h h0 k0 ok hsm hr
  generalize bwalk 4097 st r ⟨#[]⟩ = res at *
  obtain ⟨pl, sm⟩ := r
  dsimp only at HB HWK
  go_enter Tryz.func40, Tryz.ntmps40
  go_wp2_with (first
    | (refine wpList_load_row rfl 54 (.tmp 3) (by rfl) w.heap.size (by rfl) 54 #[.int .i64 pl, .string sm] (0, 0) _ HB.out Tryz.underlying54 rfl info54 ?_)
    | fail)
  refine HWK.out.mono ?_
  rintro e w2 ⟨v, own2, rfl, h2, k2⟩
  have H2 := Lib.hid h2
  have K2 := Lib.hid (HK.out.trans k2)
  clear h2 k2 HWK HK HB
  go_wp2_with fail
  go_ret2
  exact ⟨rfl, own2, H2.out, K2.out⟩

end Go.Proofs.YtimpjlnbbdfehaaGreatDoor
namespace Go.Proofs.YtimpjlnbbdfehaaGreatDoor
open Go.RowKit Go.Shelf Go.Lib Go.Sort
set_option linter.unusedVariables false
attribute [local go_sem ↓] shr_32_1 shl_32_1 shr_32_2 shl_32_2 shr_32_3 shl_32_3 shr_32_4 shl_32_4 shr_32_5 shl_32_5 shr_32_6 shl_32_6 shr_32_7 shl_32_7 shr_32_8 shl_32_8 shr_32_9 shl_32_9 shr_32_10 shl_32_10 shr_32_11 shl_32_11 shr_32_12 shl_32_12 shr_32_13 shl_32_13 shr_32_14 shl_32_14 shr_32_15 shl_32_15 shr_32_16 shl_32_16 shr_32_17 shl_32_17 shr_32_18 shl_32_18 shr_32_19 shl_32_19 shr_32_20 shl_32_20 shr_32_21 shl_32_21 shr_32_22 shl_32_22 shr_32_23 shl_32_23 shr_32_24 shl_32_24 shr_32_25 shl_32_25 shr_32_26 shl_32_26 shr_32_27 shl_32_27 shr_32_28 shl_32_28 shr_32_29 shl_32_29 shr_32_30 shl_32_30 shr_32_31 shl_32_31 shr_64_3 shl_64_3 shr_64_7 shl_64_7 shr_64_8 shl_64_8 shr_64_16 shl_64_16 shr_64_24 shl_64_24 shr_64_32 shl_64_32 shr_64_40 shl_64_40 shr_64_48 shl_64_48 shr_64_56 shl_64_56
attribute [local go_sem] add_u32 add_u64 and_u8 or_u8 xor_u8 and_u32 or_u32 xor_u32 and_u64 or_u64 xor_u64 conv_32_8 conv_64_8 conv_64_32 conv_8_32 conv_8_64 conv_32_64

set_option maxHeartbeats 8000000 in
set_option maxRecDepth 100000 in
theorem long_ok (n : Nat) (h1 : 1 ≤ n) (hn : n ≤ 4096) (w : World) :
    Calls Tryz.prog 39 #[.string ⟨#[]⟩, .int .i64 (n : Int)] w fun e w' => ∃ s : ByteArray, s.size = n ∧ e = .returned (.string s) ∧ Below w.heap.size w w' := by
  obtain ⟨i5, hi5, hz0, hz1, hz2⟩ := info_parts info5
  have hmk : (Instr.makeSlice 57 (.int .i64 (n : Int)) (.int .i64 (n : Int))).run Tryz.prog w = .ok (.slice (some ⟨w.heap.size, 0, none⟩) n n) (w.alloc (.cells (madeCells #[.int .u8 0] n) 5)) := by
    have := run_make (P := Tryz.prog) (w := w) 57 5 i5 _ Tryz.underlying57 hi5 hz0 .i64 .i64 n n (by omega) (Int.le_refl _) (by rw [hz2]; omega) (by omega)
    simpa [hz1, Value.cells] using this
  have hL0 : (bv (List.replicate n 0)).toArray = madeCells #[.int .u8 0] n := by rw [← made_bytes]
  have ho : OwnB (w.alloc (.cells (madeCells #[.int .u8 0] n) 5)) w.heap.size (.slice (some ⟨w.heap.size, 0, none⟩) n n) (List.replicate n 0) := by
    have := OwnB.of_blk (w := w.alloc (.cells (madeCells #[.int .u8 0] n) 5)) (g := w.heap.size) (l := List.replicate n 0) (B := w.heap.size) (by rw [hL0]; exact Blk.new w 5 _) (Nat.le_refl _)
    rwa [List.length_replicate] at this
  have hb : Below w.heap.size w (w.alloc (.cells (madeCells #[.int .u8 0] n) 5)) := (Below.refl _ _).alloc (Nat.le_refl _) _
  have HO := Lib.hid ho
  have HB := Lib.hid hb
  clear ho hb hL0 hi5 hz0 hz1 hz2
  go_enter Tryz.func39, Tryz.ntmps39
  go_wp2_with fail
  clear hmk
  generalize w.alloc (.cells (madeCells #[.int .u8 0] n) 5) = w1 at *
  go_loopg [6] n (fun q v wr => ∃ (j : Nat) (L : List UInt8), q + j = n ∧ v = .int .i64 (j : Int) ∧ OwnB wr w.heap.size (.slice (some ⟨w.heap.size, 0, none⟩) n n) L ∧ Below w.heap.size w wr)
  case atStart => exact ⟨0, _, rfl, rfl, HO.out, HB.out⟩
  case round =>
    obtain ⟨j, L, hj, rfl, ho, hb⟩ := hrel
    have HO1 := Lib.hid ho
    have HB1 := Lib.hid hb
    obtain ⟨hLl, hg1, hg2, hcap, hcell, hfr⟩ := ho.at_
    by_cases hlt : j < n
    · have c1 := hcell j (by omega)
      have c2 := hfr j hlt
      rw [Nat.zero_add] at c1 c2
      have hd : decide ((j : Int) < (n : Int)) = true := decide_eq_true (by omega)
      have hd2 : decide (j < n) = true := decide_eq_true hlt
      have hw7 : wrap64 ((j : Int) * 7) = (j : Int) * 7 := w64_small _ (by omega) (by omega)
      have hw8 : IntKind.u8.wrap ((j : Int) * 7) = n8 (UInt8.ofNat (j * 7 % 256)) := by
        rw [wrap_u8]; unfold n8
        rw [UInt8.toNat_ofNat_of_lt' (by show _ < 256; omega)]; omega
      have HS : Hid (∀ W : World, OwnB W w.heap.size (.slice (some ⟨w.heap.size, 0, none⟩) n n) L → OwnB (W.setCell ⟨w.heap.size, j, none⟩ (.int .u8 (n8 (UInt8.ofNat (j * 7 % 256))))) w.heap.size (.slice (some ⟨w.heap.size, 0, none⟩) n n) (L.set j (UInt8.ofNat (j * 7 % 256)))) := fun W hW => by
        have := hW.set j hlt (UInt8.ofNat (j * 7 % 256))
        rwa [Nat.zero_add] at this
      have hj0 : (0 : Int) ≤ (j : Int) := by omega
      have hj1 : (j : Int) < (n : Int) := by omega
      have hw9 : IntKind.i64.wrap ((j : Int) + 1) = ((j + 1 : Nat) : Int) := by rw [wrap_in _ (by omega) (by omega)]; omega
      clear ho hb hcell hfr HO HB
      generalize UInt8.ofNat (j * 7 % 256) = x at *
      go_wp2_with fail
      go_roundg (gk - 1)
      case measure => omega
      case rel => exact ⟨j + 1, _, by omega, by go_num, HS.out _ HO1.out, HB1.out.setCell (p := ⟨w.heap.size, j, none⟩) (Nat.le_refl _) _⟩
    · obtain rfl : j = n := by omega
      have hd : decide ((j : Int) < (j : Int)) = false := decide_eq_false (by omega)
      have hcv : (convert 57 9 (.slice (some ⟨w.heap.size, 0, none⟩) j j)).run Tryz.prog wr = .ok (.string ⟨L.toArray⟩) wr := conv_ob HO1.out
      clear ho hb hcell hfr HO HB
      go_wp2_with fail
      go_ret
      exact ⟨⟨L.toArray⟩, by show L.toArray.size = j; simpa using hLl, rfl, HB1.out⟩

end Go.Proofs.YtimpjlnbbdfehaaGreatDoor
namespace Go.Proofs.YtimpjlnbbdfehaaGreatDoor
open Go.RowKit Go.Shelf Go.Lib Go.Sort
set_option linter.unusedVariables false
attribute [local go_sem ↓] shr_32_1 shl_32_1 shr_32_2 shl_32_2 shr_32_3 shl_32_3 shr_32_4 shl_32_4 shr_32_5 shl_32_5 shr_32_6 shl_32_6 shr_32_7 shl_32_7 shr_32_8 shl_32_8 shr_32_9 shl_32_9 shr_32_10 shl_32_10 shr_32_11 shl_32_11 shr_32_12 shl_32_12 shr_32_13 shl_32_13 shr_32_14 shl_32_14 shr_32_15 shl_32_15 shr_32_16 shl_32_16 shr_32_17 shl_32_17 shr_32_18 shl_32_18 shr_32_19 shl_32_19 shr_32_20 shl_32_20 shr_32_21 shl_32_21 shr_32_22 shl_32_22 shr_32_23 shl_32_23 shr_32_24 shl_32_24 shr_32_25 shl_32_25 shr_32_26 shl_32_26 shr_32_27 shl_32_27 shr_32_28 shl_32_28 shr_32_29 shl_32_29 shr_32_30 shl_32_30 shr_32_31 shl_32_31 shr_64_3 shl_64_3 shr_64_7 shl_64_7 shr_64_8 shl_64_8 shr_64_16 shl_64_16 shr_64_24 shl_64_24 shr_64_32 shl_64_32 shr_64_40 shl_64_40 shr_64_48 shl_64_48 shr_64_56 shl_64_56
attribute [local go_sem] add_u32 add_u64 and_u8 or_u8 xor_u8 and_u32 or_u32 xor_u32 and_u64 or_u64 xor_u64 conv_32_8 conv_64_8 conv_64_32 conv_8_32 conv_8_64 conv_32_64

/-! ### What the law of long values needs of a pager -/
theorem PlayI.new (n : Nat) (m : Int) : PlayI n [] (PS.new n m) := by
  have hc : cntB (List.replicate n false) = 0 := by
    induction n with
    | zero => rfl
    | succ n ih => 
      clear ih
      generalize n + 1 = m
      induction m with
      | zero => rfl
      | succ m ih => simp [List.replicate_succ, cntB, ih]
  refine ⟨⟨by simp [PS.new, DS.new], by simp [PS.new], rfl, rfl, List.nodup_nil, (fun x hx => by cases hx), fun k hk => ?_, (fun x hx => by cases hx), (fun x hx => by cases hx), fun k => ?_, (fun p hp => by cases hp), List.nodup_nil, fun k => ?_, List.nodup_nil, ?_⟩, ⟨(fun r s hr => by cases hr), (fun r s hr => by cases hr), List.nodup_nil, Nat.zero_le _⟩⟩
  · constructor
    · intro hg
      have : (List.replicate n false).getD k false = true := hg
      rw [List.getD_eq_getElem?_getD] at this
      by_cases hkn : k < n
      · rw [List.getElem?_eq_getElem (by simpa using hkn), List.getElem_replicate] at this
        cases this
      · rw [List.getElem?_eq_none (by simpa using hkn)] at this
        cases this
    · rintro ⟨x, hx, _⟩
      cases hx
  · constructor
    · intro hm; cases hm
    · rintro ⟨x, hx, _⟩
      cases hx
  · constructor
    · intro hm; cases hm
    · rintro ⟨x, hx, _⟩
      cases hx
  · show (0 : Int) = ((cntB (List.replicate n false) : Nat) : Int)
    rw [hc]
    rfl
theorem mget_nd {m : List (Ref × ByteArray)} (hn : (m.map (·.1)).Nodup) {p : Ref × ByteArray} (hp : p ∈ m) : mget m p.1 = some p.2 := by
  induction m with
  | nil => cases hp
  | cons q r ih =>
    rw [List.map_cons, List.nodup_cons] at hn
    unfold mget
    rcases List.mem_cons.1 hp with e | e
    · rw [e, if_pos rfl]
    · rw [if_neg (fun e2 => hn.1 (by rw [e2]; exact List.mem_map.2 ⟨p, e, rfl⟩))]
      exact ih hn.2 e
theorem PlayI.small {n : Nat} {all : List Pg} {st : PS} (h : PlayI n all st) : st.small := fun p hp => by
  obtain ⟨x, hx, _, e, _⟩ := h.2.has p.1 p.2 (mget_nd h.2.kn hp)
  rw [← e]
  exact h.1.small x hx
/-- One page is all: what is written is what is read. -/
theorem bwalk_one {n : Nat} {all : List Pg} {st : PS} (h : PlayI n all st) (hm : 1 ≤ st.most) {x : Pg} (hx : x ∈ all) (ho : x.old = false) (q : Nat) :
    bwalk (q + 1) st x.r ⟨#[]⟩ = if (getF x.s).2.2.2 = false ∨ 4096 < (getF x.s).2.2.1.size then ((st.read x.r).1, ⟨#[]⟩, 8) else bwalk q (st.read x.r).1 ⟨(getF x.s).1, (getF x.s).2.1⟩ (⟨#[]⟩ ++ (getF x.s).2.2.1) := by
  obtain ⟨h1, h2, h3⟩ := h.read hm hx ho
  have hr := h.1.rng x hx
  have e1 : (st.read x.r).2.1 = x.s := by rw [h1]
  have e2 : (st.read x.r).2.2 = 0 := by rw [h1]
  have e0 : (⟨#[]⟩ : ByteArray).size = 0 := rfl
  show (if x.r.place < 0 then _ else _) = _
  rw [if_neg (by omega), e1, e2, if_neg (by simp), e0, Nat.zero_add]
theorem getF_mark (s : ByteArray) (h : (getF s).2.2.2 = true) : takeB s 0 1 = markB := by
  unfold getF at h
  dsimp only at h
  simp only [Bool.and_eq_true, decide_eq_true_eq] at h
  exact h.1.1.1
theorem take_mark (s : ByteArray) (k : Nat) (h : takeB (s.extract 0 k) 0 1 = markB) : 0 < s.size ∧ gb s 0 = 66 := by
  unfold takeB at h
  by_cases hk : 1 ≤ (s.extract 0 k).size
  · rw [if_pos hk] at h
    have hks : 1 ≤ min k s.size := by rw [ByteArray.size_extract] at hk; omega
    have h0 : 0 < s.size := by omega
    refine ⟨h0, ?_⟩
    have h1 : ((s.extract 0 k).extract 0 1).data[0]? = markB.data[0]? := by rw [h]
    have h2 : ((s.extract 0 k).extract 0 1).data[0]? = s.data[0]? := by
      rw [ByteArray.data_extract, ByteArray.data_extract, Array.getElem?_extract, Array.getElem?_extract]
      have e1 : s.data.size = s.size := rfl
      simp only [Array.size_extract, e1]
      rw [if_pos (by omega), if_pos (by omega)]
    rw [h2] at h1
    unfold gb
    simp only [markB] at h1
    rw [List.getD_eq_getElem?_getD, Array.getElem?_toList, h1]
    rfl
  · rw [if_neg hk] at h
    exact absurd (congrArg ByteArray.size h) (by decide)
theorem putW_one (st : PS) (r : Ref) (s : ByteArray) (q : Nat) (h0 : 0 < s.size) (h4 : s.size ≤ 400) (he : (st.write (bput ⟨r, s.extract 0 s.size⟩)).2.2 = 0) :
    putW (q + 2) st r s = ((st.write (bput ⟨r, s.extract 0 s.size⟩)).1, (st.write (bput ⟨r, s.extract 0 s.size⟩)).2.1, 0) := by
  have hl : lastAt s = 0 := by unfold lastAt; omega
  have hz : (s.extract 0 0).size = 0 := by rw [ByteArray.size_extract]; omega
  show (if s.size = 0 then _ else _) = _
  rw [if_neg (by omega), hl, he, if_neg (by simp)]
  show (if (s.extract 0 0).size = 0 then _ else _) = _
  rw [if_pos hz]
def awP : ByteArray := bput ⟨⟨-1, ⟨#[]⟩⟩, textB⟩
theorem awP_get : getF awP = (-1, ⟨#[]⟩, textB, true) := by rfl

end Go.Proofs.YtimpjlnbbdfehaaGreatDoor
namespace Go.Proofs.YtimpjlnbbdfehaaGreatDoor
open Go.RowKit Go.Shelf Go.Lib Go.Sort
set_option linter.unusedVariables false
attribute [local go_sem ↓] shr_32_1 shl_32_1 shr_32_2 shl_32_2 shr_32_3 shl_32_3 shr_32_4 shl_32_4 shr_32_5 shl_32_5 shr_32_6 shl_32_6 shr_32_7 shl_32_7 shr_32_8 shl_32_8 shr_32_9 shl_32_9 shr_32_10 shl_32_10 shr_32_11 shl_32_11 shr_32_12 shl_32_12 shr_32_13 shl_32_13 shr_32_14 shl_32_14 shr_32_15 shl_32_15 shr_32_16 shl_32_16 shr_32_17 shl_32_17 shr_32_18 shl_32_18 shr_32_19 shl_32_19 shr_32_20 shl_32_20 shr_32_21 shl_32_21 shr_32_22 shl_32_22 shr_32_23 shl_32_23 shr_32_24 shl_32_24 shr_32_25 shl_32_25 shr_32_26 shl_32_26 shr_32_27 shl_32_27 shr_32_28 shl_32_28 shr_32_29 shl_32_29 shr_32_30 shl_32_30 shr_32_31 shl_32_31 shr_64_3 shl_64_3 shr_64_7 shl_64_7 shr_64_8 shl_64_8 shr_64_16 shl_64_16 shr_64_24 shl_64_24 shr_64_32 shl_64_32 shr_64_40 shl_64_40 shr_64_48 shl_64_48 shr_64_56 shl_64_56
attribute [local go_sem] add_u32 add_u64 and_u8 or_u8 xor_u8 and_u32 or_u32 xor_u32 and_u64 or_u64 xor_u64 conv_32_8 conv_64_8 conv_64_32 conv_8_32 conv_8_64 conv_32_64

theorem textB_whole : textB.extract 0 textB.size = textB := by rfl
theorem awP_small : awP.size ≤ 462 := by decide
theorem put_text (st : PS) (e : (st.write awP).2.2 = 0) : putW 11 st ⟨-1, ⟨#[]⟩⟩ textB = ((st.write awP).1, (st.write awP).2.1, 0) := by
  have hx : bput ⟨⟨-1, ⟨#[]⟩⟩, textB.extract 0 textB.size⟩ = awP := by unfold awP; rw [textB_whole]
  have := putW_one st ⟨-1, ⟨#[]⟩⟩ textB 9 (by decide) (by decide) (by rw [hx]; exact e)
  rw [hx] at this
  exact this
theorem bwalk_yes {n : Nat} {all : List Pg} {st : PS} (h : PlayI n all st) (hm : 1 ≤ st.most) {x : Pg} (hx : x ∈ all) (ho : x.old = false) (q : Nat) {a : Int} {b c : ByteArray} (hg : getF x.s = (a, b, c, true)) (hc : ¬ 4096 < c.size) :
    bwalk (q + 1) st x.r ⟨#[]⟩ = bwalk q (st.read x.r).1 ⟨a, b⟩ (⟨#[]⟩ ++ c) := by
  rw [bwalk_one h hm hx ho q, hg]
  dsimp only
  exact if_neg (fun e => by
    rcases e with e | e
    · cases e
    · exact hc e)
theorem bwalk_no {n : Nat} {all : List Pg} {st : PS} (h : PlayI n all st) (hm : 1 ≤ st.most) {x : Pg} (hx : x ∈ all) (ho : x.old = false) (q : Nat) (hg : (getF x.s).2.2.2 = false) :
    bwalk (q + 1) st x.r ⟨#[]⟩ = ((st.read x.r).1, ⟨#[]⟩, 8) := by
  rw [bwalk_one h hm hx ho q]
  exact if_pos (.inl hg)
theorem bwalk_end (q : Nat) (st : PS) (b s : ByteArray) : bwalk (q + 1) st ⟨-1, b⟩ s = (st, s, 0) := if_pos (by show (-1 : Int) < 0; decide)
theorem text_app : (⟨#[]⟩ : ByteArray) ++ textB = textB := by rfl
theorem get_text {n : Nat} {all : List Pg} {st : PS} (h : PlayI n all st) (hm : 1 ≤ st.most) (r : Ref) (hx : ⟨r, awP, true, false⟩ ∈ all) (q : Nat) : ∃ st2, bwalk (q + 2) st r ⟨#[]⟩ = (st2, textB, 0) := by
  have hb := bwalk_yes h hm hx rfl (q + 1) awP_get (by decide)
  rw [bwalk_end, text_app] at hb
  exact ⟨_, hb⟩
/-- What the page of four letters leaves. -/
theorem aw20_facts (st0 : PS) (n : Nat) (hP : PlayI n [] st0) (hm : 1 ≤ st0.most) (ok : st0.okN 0) (hn : 3 ≤ n) (hn2 : n ≤ 16000) :
    ∃ (st2 st3 : PS) (r : Ref), (∀ (w : World) (i : Ids) (own : Nat → Nat), SysC w i st0 own → Calls Tryz.prog 38 #[.pointer (some ⟨i.p, 0, none⟩), .string textB] w (PT i w own st2 (.tuple #[.agg #[.int .i64 r.place, .string r.sum], .int .i64 0])))
      ∧ (∀ (w : World) (i : Ids) (own : Nat → Nat), SysC w i st2 own → Calls Tryz.prog 40 #[.pointer (some ⟨i.p, 0, none⟩), .agg #[.int .i64 r.place, .string r.sum]] w (PT i w own st3 (.tuple #[.string textB, .int .i64 0]))) := by
  obtain ⟨ok1, hm1, hw⟩ := hP.writes hm ok (by omega) awP awP_small
  have hput := fun w i own (h1 : SysC w i st0 own) => put_ok h1 ok (by omega) hP hm (by omega) hn2 textB (by decide) (by decide)
  rcases hw with ⟨e, hl, hP2, p0, p1, p2⟩ | ⟨_, _, hl⟩
  · rw [put_text st0 e] at hput
    have hget := fun w i own (h1 : SysC w i (st0.write awP).1 own) => lget_ok h1 ok1 (by omega) hP2.small (st0.write awP).2.1 ⟨⟨by omega, by omega⟩, by rw [p2]; decide⟩
    obtain ⟨st3, hb⟩ := get_text hP2 (by rw [hm1]; exact hm) (st0.write awP).2.1 (by simp) 4095
    rw [hb] at hget
    exact ⟨_, st3, _, hput, hget⟩
  · rw [List.length_nil] at hl; omega

end Go.Proofs.YtimpjlnbbdfehaaGreatDoor
namespace Go.Proofs.YtimpjlnbbdfehaaGreatDoor
open Go.RowKit Go.Shelf Go.Lib Go.Sort
set_option linter.unusedVariables false
attribute [local go_sem ↓] shr_32_1 shl_32_1 shr_32_2 shl_32_2 shr_32_3 shl_32_3 shr_32_4 shl_32_4 shr_32_5 shl_32_5 shr_32_6 shl_32_6 shr_32_7 shl_32_7 shr_32_8 shl_32_8 shr_32_9 shl_32_9 shr_32_10 shl_32_10 shr_32_11 shl_32_11 shr_32_12 shl_32_12 shr_32_13 shl_32_13 shr_32_14 shl_32_14 shr_32_15 shl_32_15 shr_32_16 shl_32_16 shr_32_17 shl_32_17 shr_32_18 shl_32_18 shr_32_19 shl_32_19 shr_32_20 shl_32_20 shr_32_21 shl_32_21 shr_32_22 shl_32_22 shr_32_23 shl_32_23 shr_32_24 shl_32_24 shr_32_25 shl_32_25 shr_32_26 shl_32_26 shr_32_27 shl_32_27 shr_32_28 shl_32_28 shr_32_29 shl_32_29 shr_32_30 shl_32_30 shr_32_31 shl_32_31 shr_64_3 shl_64_3 shr_64_7 shl_64_7 shr_64_8 shl_64_8 shr_64_16 shl_64_16 shr_64_24 shl_64_24 shr_64_32 shl_64_32 shr_64_40 shl_64_40 shr_64_48 shl_64_48 shr_64_56 shl_64_56
attribute [local go_sem] add_u32 add_u64 and_u8 or_u8 xor_u8 and_u32 or_u32 xor_u32 and_u64 or_u64 xor_u64 conv_32_8 conv_64_8 conv_64_32 conv_8_32 conv_8_64 conv_32_64

set_option maxHeartbeats 8000000 in
set_option maxRecDepth 100000 in
theorem aw20_ok (w : World) (hT : Salts w) : Calls Tryz.prog 41 #[] w fun e w' => e = .returned (.bool true) ∧ Below w.heap.size w w' := by
  have HM : Hid (Calls Tryz.prog 16 #[.int .i64 20, .int .i64 4] w (Made 20 4 w)) := made_ok 20 4 (by omega) (by omega) w hT
  have hmo : 1 ≤ (PS.new 20 4).most := by show 1 ≤ mostN 4; unfold mostN; decide
  obtain ⟨st2, st3, r, hp, hg⟩ := aw20_facts (PS.new 20 4) 20 (PlayI.new 20 4) hmo (PS.new_okN 20 4 (by omega)) (by omega) (by omega)
  obtain ⟨pl, sm⟩ := r
  dsimp only at hp hg
  unfold textB at hp hg
  have hP := Lib.hid hp
  have hG := Lib.hid hg
  have HS : Hid (0 < w.heap.size) := hT.1
  clear hT hmo hp hg
  go_enter Tryz.func41, Tryz.ntmps41
  go_wp2_with fail
  refine HM.out.mono ?_
  rintro e w1 ⟨i, own1, rfl, h1, hb1, hz1⟩
  have H1 := Lib.hid h1
  have B1 := Lib.hid hb1
  have Z1 := Lib.hid hz1
  clear h1 hb1 hz1 HM
  go_wp2_with fail
  refine (hP.out _ _ _ H1.out).mono ?_
  rintro e w2 ⟨rfl, own2, h2, k2⟩
  have HA : Hid (Blk (w2.alloc (.cells #[.int .i64 0, .string ⟨#[]⟩] 54)) w2.heap.size 54 #[.int .i64 0, .string ⟨#[]⟩]) := Blk.new w2 54 _
  obtain ⟨own3, h3, k3, b3, z3⟩ := one_box h2 54 #[.int .i64 0, .string ⟨#[]⟩] #[.int .i64 pl, .string sm]
  have H3 := Lib.hid h3
  have K3 := Lib.hid (k2.trans k3)
  have B3 := Lib.hid b3
  clear h2 k2 h3 k3 b3 z3 hP
  go_wp2_with (first
    | (refine wpList_store_row rfl 54 (.tmp 5) (.tmp 18) (by rfl) w2.heap.size #[.int .i64 pl, .string sm] (by rfl) (by rfl) 54 _ HA.out info54 (by rfl) (by simp [Value.oneCell']) ?_; generalize (w2.alloc (.cells #[.int .i64 0, .string ⟨#[]⟩] 54)).setRow w2.heap.size #[.int .i64 pl, .string sm] = w3 at *)
    | (refine wpList_load_row rfl 54 (.tmp 5) (by rfl) w2.heap.size (by rfl) 54 #[.int .i64 pl, .string sm] (0, 0) _ B3.out Tryz.underlying54 rfl info54 ?_)
    | fail)
  refine (hG.out _ _ _ H3.out).mono ?_
  rintro e w4 ⟨rfl, own4, h4, k4⟩
  have K4 := Lib.hid (K3.out.trans k4)
  clear h4 k4 hG
  go_wp2_with fail
  go_ret
  exact ⟨rfl, below_keeps B1.out B1.out.size Z1.out K4.out⟩

end Go.Proofs.YtimpjlnbbdfehaaGreatDoor
namespace Go.Proofs.YtimpjlnbbdfehaaGreatDoor
open Go.RowKit Go.Shelf Go.Lib Go.Sort
set_option linter.unusedVariables false
attribute [local go_sem ↓] shr_32_1 shl_32_1 shr_32_2 shl_32_2 shr_32_3 shl_32_3 shr_32_4 shl_32_4 shr_32_5 shl_32_5 shr_32_6 shl_32_6 shr_32_7 shl_32_7 shr_32_8 shl_32_8 shr_32_9 shl_32_9 shr_32_10 shl_32_10 shr_32_11 shl_32_11 shr_32_12 shl_32_12 shr_32_13 shl_32_13 shr_32_14 shl_32_14 shr_32_15 shl_32_15 shr_32_16 shl_32_16 shr_32_17 shl_32_17 shr_32_18 shl_32_18 shr_32_19 shl_32_19 shr_32_20 shl_32_20 shr_32_21 shl_32_21 shr_32_22 shl_32_22 shr_32_23 shl_32_23 shr_32_24 shl_32_24 shr_32_25 shl_32_25 shr_32_26 shl_32_26 shr_32_27 shl_32_27 shr_32_28 shl_32_28 shr_32_29 shl_32_29 shr_32_30 shl_32_30 shr_32_31 shl_32_31 shr_64_3 shl_64_3 shr_64_7 shl_64_7 shr_64_8 shl_64_8 shr_64_16 shl_64_16 shr_64_24 shl_64_24 shr_64_32 shl_64_32 shr_64_40 shl_64_40 shr_64_48 shl_64_48 shr_64_56 shl_64_56
attribute [local go_sem] add_u32 add_u64 and_u8 or_u8 xor_u8 and_u32 or_u32 xor_u32 and_u64 or_u64 xor_u64 conv_32_8 conv_64_8 conv_64_32 conv_8_32 conv_8_64 conv_32_64

/-! ### Where there is no room for all of it there is none of it -/
theorem fresh_gone {xs : List Pg} (h : ∀ x ∈ xs, x.fresh = true ∧ x.old = false) : (xs.filter fun x => !x.fresh).map Pg.reset = [] := by
  have : xs.filter (fun x => !x.fresh) = [] := by
    rw [List.filter_eq_nil_iff]
    intro x hx
    simp [(h x hx).1]
  rw [this]; rfl
theorem put_facts (N : Nat) (m : Int) (hm : 1 ≤ (PS.new N m).most) (hN : 3 ≤ N) (hN2 : N ≤ 4096) (s : ByteArray) (hs : 0 < s.size) (hs2 : s.size ≤ 4096) :
    ∃ (st1 : PS) (r : Ref) (e : Int), (∀ (w : World) (i : Ids) (own : Nat → Nat), SysC w i (PS.new N m) own → Calls Tryz.prog 38 #[.pointer (some ⟨i.p, 0, none⟩), .string s] w (PT i w own st1 (.tuple #[.agg #[.int .i64 r.place, .string r.sum], .int .i64 e])))
      ∧ ((s.size + 399) / 400 ≤ N - 2 → e = 0) ∧ (N - 2 < (s.size + 399) / 400 → e = 5) ∧ PlayI N [] st1.undo ∧ 1 ≤ st1.undo.most ∧ st1.undo.okN 33 ∧ st1.okN 33 ∧ st1.s.okC := by
  obtain ⟨a, b, ⟨xs, hx, hP⟩, hmo, hok⟩ := putW_law (by omega : 2 ≤ N) (by omega) 11 (PS.new N m) ⟨-1, ⟨#[]⟩⟩ s 0 [] (PlayI.new N m) hm (PS.new_okN N m (by omega)) ⟨by decide, by show (-1 : Int) < _; omega, by decide⟩ (by omega)
  have hput := fun w i own (h1 : SysC w i (PS.new N m) own) => put_ok h1 (PS.new_okN N m (by omega)) (by omega) (PlayI.new N m) hm (by omega) (by omega) s hs hs2
  rw [List.nil_append] at hP
  obtain ⟨u1, u2⟩ := hP.undo
  rw [fresh_gone hx] at u1
  refine ⟨_, _, _, hput, fun h => a (by simpa using h), fun h => b (by simpa using h) (by simp), u1, by rw [u2, hmo]; exact hm, PS.undo_okN hok hP.1.cnt, hok, hP.1.cnt⟩
theorem bwalk_no' {n : Nat} {all : List Pg} {st : PS} (h : PlayI n all st) (hm : 1 ≤ st.most) (r : Ref) (t : ByteArray) (hx : ⟨r, t, true, false⟩ ∈ all) (q : Nat) (hg : (getF t).2.2.2 = false) :
    bwalk (q + 1) st r ⟨#[]⟩ = ((st.read r).1, ⟨#[]⟩, 8) := by
  have e := bwalk_one h hm hx rfl q
  dsimp only at e
  rw [e]
  exact if_pos (.inl hg)
/-- One short page is written where none is; what is read of it. -/
theorem page_facts (N : Nat) (st : PS) (hP : PlayI N [] st) (hm : 1 ≤ st.most) (ok : st.okN 33) (hN : 3 ≤ N) (hN2 : N ≤ 4096) (s : ByteArray) (k : Nat) (T : ByteArray) (hT : T = s.extract 0 k) (hs : T.size ≤ 462) (q : Nat) (hq : q + 1 = 4097) :
    ∃ (st2 st3 : PS) (r : Ref) (t : ByteArray) (g : Int), (∀ (w : World) (i : Ids) (own : Nat → Nat), SysC w i st own → Calls Tryz.prog 28 #[.pointer (some ⟨i.p, 0, none⟩), .string T] w (PT i w own st2 (.tuple #[.agg #[.int .i64 r.place, .string r.sum], .int .i64 0])))
      ∧ (∀ (w : World) (i : Ids) (own : Nat → Nat), SysC w i st2 own → Calls Tryz.prog 40 #[.pointer (some ⟨i.p, 0, none⟩), .agg #[.int .i64 r.place, .string r.sum]] w (PT i w own st3 (.tuple #[.string t, .int .i64 g])))
      ∧ (g = 8 ∨ (0 < s.size ∧ gb s 0 = 66)) ∧ 0 ≤ r.place := by
  obtain ⟨ok1, hm1, hw⟩ := hP.writes hm ok (by omega) T hs
  have hput := fun w i own (h1 : SysC w i st own) => write_any h1 ok (by omega) hP (by omega) T hs
  rcases hw with ⟨e, hl, hP2, p0, p1, p2⟩ | ⟨_, _, hl⟩
  · rw [e] at hput
    rw [List.nil_append] at hP2
    generalize (st.write T).1 = st2 at *
    generalize (st.write T).2.1 = r at *
    have hget := fun w i own (h1 : SysC w i st2 own) => lget_ok h1 ok1 (by omega) hP2.small r ⟨⟨by omega, by omega⟩, by rw [p2]; decide⟩
    rw [← hq] at hget
    rcases Bool.eq_false_or_eq_true (getF T).2.2.2 with hg | hg
    · generalize bwalk (q + 1) st2 r ⟨#[]⟩ = res at *
      exact ⟨st2, res.1, r, res.2.1, res.2.2, hput, hget, .inr (take_mark s k (by rw [← hT]; exact getF_mark _ hg)), p0⟩
    · rw [bwalk_no' hP2 (by rw [hm1]; exact hm) r T (List.mem_singleton.2 rfl) q hg] at hget
      exact ⟨st2, _, r, _, 8, hput, hget, .inl rfl, p0⟩
  · rw [List.length_nil] at hl; omega

end Go.Proofs.YtimpjlnbbdfehaaGreatDoor
namespace Go.Proofs.YtimpjlnbbdfehaaGreatDoor
open Go.RowKit Go.Shelf Go.Lib Go.Sort
set_option linter.unusedVariables false
attribute [local go_sem ↓] shr_32_1 shl_32_1 shr_32_2 shl_32_2 shr_32_3 shl_32_3 shr_32_4 shl_32_4 shr_32_5 shl_32_5 shr_32_6 shl_32_6 shr_32_7 shl_32_7 shr_32_8 shl_32_8 shr_32_9 shl_32_9 shr_32_10 shl_32_10 shr_32_11 shl_32_11 shr_32_12 shl_32_12 shr_32_13 shl_32_13 shr_32_14 shl_32_14 shr_32_15 shl_32_15 shr_32_16 shl_32_16 shr_32_17 shl_32_17 shr_32_18 shl_32_18 shr_32_19 shl_32_19 shr_32_20 shl_32_20 shr_32_21 shl_32_21 shr_32_22 shl_32_22 shr_32_23 shl_32_23 shr_32_24 shl_32_24 shr_32_25 shl_32_25 shr_32_26 shl_32_26 shr_32_27 shl_32_27 shr_32_28 shl_32_28 shr_32_29 shl_32_29 shr_32_30 shl_32_30 shr_32_31 shl_32_31 shr_64_3 shl_64_3 shr_64_7 shl_64_7 shr_64_8 shl_64_8 shr_64_16 shl_64_16 shr_64_24 shl_64_24 shr_64_32 shl_64_32 shr_64_40 shl_64_40 shr_64_48 shl_64_48 shr_64_56 shl_64_56
attribute [local go_sem] add_u32 add_u64 and_u8 or_u8 xor_u8 and_u32 or_u32 xor_u32 and_u64 or_u64 xor_u64 conv_32_8 conv_64_8 conv_64_32 conv_8_32 conv_8_64 conv_32_64

set_option maxHeartbeats 16000000 in
set_option maxRecDepth 100000 in
theorem blobFull_walk (room : Int) (hr : (Lit.int .i64 room).wf = true) (n : Int) (hn : (Lit.int .i64 n).wf = true) (s : ByteArray) (hs : s.size ≤ maxLen) (W : World) (hT : Salts W) :
    Calls Tryz.prog 8 #[.int .i64 room, .int .i64 n, .string s] W fun e w' => e = .returned (.bool true) ∧ Below W.heap.size W w' := by
  obtain ⟨N, hN⟩ : ∃ N : Nat, (N : Int) = room % 8 + 3 := ⟨(room % 8 + 3).toNat, by omega⟩
  obtain ⟨nn, hnn⟩ : ∃ nn : Nat, (nn : Int) = n % 4096 + 1 := ⟨(n % 4096 + 1).toNat, by omega⟩
  have hN2 : 3 ≤ N ∧ N ≤ 10 := by omega
  have hn2 : 1 ≤ nn ∧ nn ≤ 4096 := by omega
  have HM : Hid (Calls Tryz.prog 16 #[.int .i64 (N : Int), .int .i64 3] W (Made N 3 W)) := made_ok N 3 (by omega) (by omega) W hT
  have hmo : 1 ≤ (PS.new N 3).most := by show 1 ≤ mostN 3; unfold mostN; decide
  have HLG := Lib.hid (fun w => long_ok nn hn2.1 hn2.2 w)
  have HPF := Lib.hid (fun (s0 : ByteArray) (hz : s0.size = nn) => put_facts N 3 hmo hN2.1 (by omega) s0 (by omega) (by omega))
  obtain ⟨T, hTT⟩ : ∃ T, T = s.extract 0 (min s.size 100) := ⟨_, rfl⟩
  have HGF := Lib.hid (fun (st : PS) (hP : PlayI N [] st) (hm : 1 ≤ st.most) (ok : st.okN 33) => page_facts N st hP hm ok hN2.1 (by omega) s (min s.size 100) T hTT (by rw [hTT, ByteArray.size_extract]; omega) 4096 rfl)
  have hsl := fun w => slice_to s ((min s.size 100 : Nat) : Int) (min s.size 100) rfl (Nat.min_le_left _ _) w
  rw [← hTT] at hsl
  have hmin : min (s.size : Int) 100 = ((min s.size 100 : Nat) : Int) := by omega
  have ha7 : bits .and .i64 room 7 = room % 8 := i64_mask room 3 7 (by decide) (by omega)
  have ha4 : bits .and .i64 n 4095 = n % 4096 := i64_mask n 12 4095 (by decide) (by omega)
  have hw3 : IntKind.i64.wrap (room % 8 + 3) = (N : Int) := by rw [hN]; exact wrap_in _ (by omega) (by omega)
  have hw3' : wrap64 (room % 8 + 3) = (N : Int) := by rw [hN]; exact w64_small _ (by omega) (by omega)
  have hw1 : IntKind.i64.wrap (n % 4096 + 1) = (nn : Int) := by rw [hnn]; exact wrap_in _ (by omega) (by omega)
  have hw1' : wrap64 (n % 4096 + 1) = (nn : Int) := by rw [hnn]; exact w64_small _ (by omega) (by omega)
  have HNN : Hid ((N : Int) = room % 8 + 3 ∧ 3 ≤ N ∧ N ≤ 10 ∧ 1 ≤ nn ∧ nn ≤ 4096) := ⟨hN, hN2.1, hN2.2, hn2.1, hn2.2⟩
  obtain ⟨q, hq⟩ : ∃ q, q = (nn + 399) / 400 := ⟨_, rfl⟩
  have hdv : wrap64 (((nn : Int) + 399).tdiv 400) = (q : Int) := by
    have e : ((nn : Int) + 399).tdiv 400 = (q : Int) := by
      rw [Int.tdiv_eq_ediv_of_nonneg (by omega)]
      omega
    rw [e]
    exact w64_small _ (by omega) (by omega)
  have HQ := Lib.hid hq
  have HSZ := Lib.hid hs
  have HS : Hid (0 < W.heap.size) := hT.1
  clear hT hmo hTT hN hnn hN2 hn2 hr hn hs hq
  go_enter Tryz.func8, Tryz.ntmps8
  go_wp2_with fail
  refine HM.out.mono ?_
  rintro e w1 ⟨i, own1, rfl, h1, hb1, hz1⟩
  have H1 := Lib.hid h1
  have B1 := Lib.hid hb1
  have Z1 := Lib.hid hz1
  clear h1 hb1 hz1 HM
  go_wp2_with fail
  refine (HLG.out w1).mono ?_
  rintro e w2 ⟨s0, hz0, rfl, hb2⟩
  obtain ⟨st1, ⟨pl1, sm1⟩, e1, hput, he0, he5, hPU, hmU, hokU, hok1, hcn⟩ := HPF.out s0 hz0
  have H2 := Lib.hid (H1.out.none_step (only_of_below hb2)).1
  have K2 := Lib.hid (H1.out.none_step (only_of_below hb2)).2
  have HPUT := Lib.hid hput
  have HE : Hid ((q ≤ N - 2 → e1 = 0) ∧ (N - 2 < q → e1 = 5)) := ⟨fun h => he0 (by rw [hz0, ← HQ.out]; exact h), fun h => he5 (by rw [hz0, ← HQ.out]; exact h)⟩
  have HUN := Lib.hid (fun w own (h : SysC w i st1 own) => undo_ok h hok1 (by omega) hcn)
  obtain ⟨st3, st4, ⟨pl2, sm2⟩, t, g, hwr, hgt, hgg, hp0⟩ := HGF.out _ hPU hmU hokU
  dsimp only at hwr hgt hp0 hput
  have HWR := Lib.hid hwr
  have HGT := Lib.hid hgt
  have HGG := Lib.hid hgg
  clear hput he0 he5 hPU hmU hokU hok1 hcn hwr hgt hgg hp0 hb2 HPF HGF HLG hz0 H1
  generalize mark w1 own1 0 = own2 at *
  generalize st1.undo = stu at *
  go_wp2_with fail
  refine (HPUT.out _ _ _ H2.out).mono ?_
  rintro e w3 ⟨rfl, own3, h3, k3⟩
  have HA : Hid (Blk (w3.alloc (.cells #[.int .i64 0, .string ⟨#[]⟩] 54)) w3.heap.size 54 #[.int .i64 0, .string ⟨#[]⟩]) := Blk.new w3 54 _
  obtain ⟨own4, h4, k4, _, _⟩ := one_box h3 54 #[.int .i64 0, .string ⟨#[]⟩] #[.int .i64 pl1, .string sm1]
  have H4 := Lib.hid h4
  have K4 := Lib.hid (K2.out.trans (k3.trans k4))
  clear h3 k3 h4 k4 HPUT H2 K2
  go_wp2_with (first
    | (refine wpList_store_row rfl 54 (.tmp 13) (.tmp 38) (by rfl) w3.heap.size #[.int .i64 pl1, .string sm1] (by rfl) (by rfl) 54 _ HA.out info54 (by rfl) (by simp [Value.oneCell']) ?_; generalize (w3.alloc (.cells #[.int .i64 0, .string ⟨#[]⟩] 54)).setRow w3.heap.size #[.int .i64 pl1, .string sm1] = w4 at *)
    | fail)
  refine (HUN.out _ _ H4.out).mono ?_
  rintro e w5 ⟨rfl, own5, h5, k5⟩
  have H5 := Lib.hid h5
  have K5 := Lib.hid (K4.out.trans k5)
  clear h5 k5 HUN H4 K4 HA
  go_wp2_with fail
  refine (HWR.out _ _ _ H5.out).mono ?_
  rintro e w6 ⟨rfl, own6, h6, k6⟩
  have HA : Hid (Blk (w6.alloc (.cells #[.int .i64 0, .string ⟨#[]⟩] 54)) w6.heap.size 54 #[.int .i64 0, .string ⟨#[]⟩]) := Blk.new w6 54 _
  obtain ⟨own7, h7, k7, b7, _⟩ := one_box h6 54 #[.int .i64 0, .string ⟨#[]⟩] #[.int .i64 pl2, .string sm2]
  have H7 := Lib.hid h7
  have K7 := Lib.hid (K5.out.trans (k6.trans k7))
  have B7 := Lib.hid b7
  clear h6 k6 h7 k7 b7 HWR H5 K5
  go_wp2_with (first
    | (refine wpList_store_row rfl 54 (.tmp 15) (.tmp 50) (by rfl) w6.heap.size #[.int .i64 pl2, .string sm2] (by rfl) (by rfl) 54 _ HA.out info54 (by rfl) (by simp [Value.oneCell']) ?_; generalize (w6.alloc (.cells #[.int .i64 0, .string ⟨#[]⟩] 54)).setRow w6.heap.size #[.int .i64 pl2, .string sm2] = w7 at *)
    | (refine wpList_load_row rfl 54 (.tmp 15) (by rfl) w6.heap.size (by rfl) 54 #[.int .i64 pl2, .string sm2] (0, 0) _ B7.out Tryz.underlying54 rfl info54 ?_)
    | fail)
  refine (HGT.out _ _ _ H7.out).mono ?_
  rintro e w8 ⟨rfl, own8, h8, k8⟩
  have K8 := Lib.hid (K7.out.trans k8)
  have HSA := Lib.hid h8.salts
  clear h8 k8 HGT H7 K7 HA B7
  have hw5 : IntKind.i64.wrap ((nn : Int) + 399) = (nn : Int) + 399 := wrap_in _ (by have := HNN.out; omega) (by have := HNN.out; omega)
  have hw5' : wrap64 ((nn : Int) + 399) = (nn : Int) + 399 := w64_small _ (by have := HNN.out; omega) (by have := HNN.out; omega)
  have hw6 : IntKind.i64.wrap (room % 8 + 1) = room % 8 + 1 := wrap_in _ (by omega) (by omega)
  have hw6' : wrap64 (room % 8 + 1) = room % 8 + 1 := w64_small _ (by omega) (by omega)
  have hfit : ∃ f : Bool, decide ((q : Int) ≤ room % 8 + 1) = f ∧ ((f = true ∧ e1 = 0) ∨ (f = false ∧ e1 = 5)) := by
    have hN := HNN.out
    by_cases hf : q ≤ N - 2
    · exact ⟨true, decide_eq_true (by omega), .inl ⟨rfl, HE.out.1 hf⟩⟩
    · exact ⟨false, decide_eq_false (by omega), .inr ⟨rfl, HE.out.2 (by omega)⟩⟩
  obtain ⟨f, hfd, hf⟩ := hfit
  have hgs : g = 8 ∨ ((g == 8) = false ∧ 0 < s.size ∧ gb s 0 = 66) := by
    by_cases hg : g = 8
    · exact .inl hg
    · rcases HGG.out with h | h
      · exact absurd h hg
      · exact .inr ⟨by simp [hg], h⟩
  clear HE HGG
  rcases hf with ⟨rfl, rfl⟩ | ⟨rfl, rfl⟩
  · rcases hgs with rfl | ⟨hg8, hsz, hgb⟩
    · skip
      have HBW : Hid (Below W.heap.size W w8) := below_keeps B1.out B1.out.size Z1.out K8.out
      go_wp2_with fail
      refine (aw20_ok w8 HSA.out).mono ?_
      rintro e w9 ⟨rfl, hb9⟩
      go_wp2_with fail
      go_ret
      exact ⟨rfl, HBW.out.trans (hb9.mono HBW.out.size)⟩
    · have hd0 : decide (0 < s.size) = true := decide_eq_true hsz
      have hix : ∀ w, (Instr.index 9 (.string s) (.int .i64 0)).run Tryz.prog w = .ok (.int .u8 66) w := fun w => by
        have := ix_str s 0 0 rfl hsz w
        rw [hgb] at this
        exact this
      clear hgb
      have HBW : Hid (Below W.heap.size W w8) := below_keeps B1.out B1.out.size Z1.out K8.out
      go_wp2_with fail
      refine (aw20_ok w8 HSA.out).mono ?_
      rintro e w9 ⟨rfl, hb9⟩
      go_wp2_with fail
      go_ret
      exact ⟨rfl, HBW.out.trans (hb9.mono HBW.out.size)⟩
  · rcases hgs with rfl | ⟨hg8, hsz, hgb⟩
    · skip
      have HBW : Hid (Below W.heap.size W w8) := below_keeps B1.out B1.out.size Z1.out K8.out
      go_wp2_with fail
      refine (aw20_ok w8 HSA.out).mono ?_
      rintro e w9 ⟨rfl, hb9⟩
      go_wp2_with fail
      go_ret
      exact ⟨rfl, HBW.out.trans (hb9.mono HBW.out.size)⟩
    · have hd0 : decide (0 < s.size) = true := decide_eq_true hsz
      have hix : ∀ w, (Instr.index 9 (.string s) (.int .i64 0)).run Tryz.prog w = .ok (.int .u8 66) w := fun w => by
        have := ix_str s 0 0 rfl hsz w
        rw [hgb] at this
        exact this
      clear hgb
      have HBW : Hid (Below W.heap.size W w8) := below_keeps B1.out B1.out.size Z1.out K8.out
      go_wp2_with fail
      refine (aw20_ok w8 HSA.out).mono ?_
      rintro e w9 ⟨rfl, hb9⟩
      go_wp2_with fail
      go_ret
      exact ⟨rfl, HBW.out.trans (hb9.mono HBW.out.size)⟩

end Go.Proofs.YtimpjlnbbdfehaaGreatDoor
