import Derived.Test.YtimpjlnbbdfehaaGreatDoorGI
namespace Go.Proofs.YtimpjlnbbdfehaaGreatDoor
open Go.RowKit Go.Shelf Go.Lib Go.Sort
set_option linter.unusedVariables false
attribute [local go_sem ↓] shr_32_1 shl_32_1 shr_32_2 shl_32_2 shr_32_3 shl_32_3 shr_32_4 shl_32_4 shr_32_5 shl_32_5 shr_32_6 shl_32_6 shr_32_7 shl_32_7 shr_32_8 shl_32_8 shr_32_9 shl_32_9 shr_32_10 shl_32_10 shr_32_11 shl_32_11 shr_32_12 shl_32_12 shr_32_13 shl_32_13 shr_32_14 shl_32_14 shr_32_15 shl_32_15 shr_32_16 shl_32_16 shr_32_17 shl_32_17 shr_32_18 shl_32_18 shr_32_19 shl_32_19 shr_32_20 shl_32_20 shr_32_21 shl_32_21 shr_32_22 shl_32_22 shr_32_23 shl_32_23 shr_32_24 shl_32_24 shr_32_25 shl_32_25 shr_32_26 shl_32_26 shr_32_27 shl_32_27 shr_32_28 shl_32_28 shr_32_29 shl_32_29 shr_32_30 shl_32_30 shr_32_31 shl_32_31 shr_64_3 shl_64_3 shr_64_7 shl_64_7 shr_64_8 shl_64_8 shr_64_16 shl_64_16 shr_64_24 shl_64_24 shr_64_32 shl_64_32 shr_64_40 shl_64_40 shr_64_48 shl_64_48 shr_64_56 shl_64_56
attribute [local go_sem] add_u32 add_u64 and_u8 or_u8 xor_u8 and_u32 or_u32 xor_u32 and_u64 or_u64 xor_u64 conv_32_8 conv_64_8 conv_64_32 conv_8_32 conv_8_64 conv_32_64

section
variable {w : World} {i : Ids} {st : PS} {own : Nat → Nat}
theorem ppoke_ok {n : Nat} (h : SysC w i st own) (ok : st.okN n) (hn : n ≤ 900000) (k : Nat) (hk : k < st.d.sure.length) (x : ByteArray) (hx : x.size = 512) :
    Calls Tryz.prog 29 #[.pointer (some ⟨i.d, 0, none⟩), .int .i64 (k : Int), .string x] w (PT i w own { st with d := st.d.poke k x } (.bool true)) := by
  obtain ⟨F, hF, hO⟩ := h.disk
  exact (poke_ok hF (ok.ok hn).d k hk x hx).mono fun e w' ⟨he, F', h1, ho, hf⟩ => ⟨he, _, h.disk_step hO hF.lt h1 ho hf⟩
theorem ptwins_ok (h : SysC w i st own) : Calls Tryz.prog 31 #[.pointer (some ⟨i.b, 0, none⟩)] w (PT i w own st (.tuple #[.string st.b.a, .string st.b.b, .bool st.b.twin])) := by
  obtain ⟨F, ⟨nb, hb, _⟩, hO⟩ := h.book
  refine (twins_ok hb).mono fun e w' ⟨he, n, hn⟩ => ⟨he, ?_⟩
  rw [hn]
  exact h.drew (Keeps.refl _ _) n
theorem PS.take_okN {n K : Nat} (ok : st.okN n) : ({ st with s := st.s.take K } : PS).okN (n + 1) :=
  have k := ok.mono (Nat.le_succ n)
  ⟨k.dl, k.drow, k.dall, k.dnall, k.acts, k.key, k.reads, k.hits, k.row, k.rows, k.old, by show (st.s.taken.set K true).length = _; rw [List.length_set]; exact ok.sl, ok.sf, by have := ok.m0; show 0 ≤ st.s.many + 1; omega, by have := ok.m1; show st.s.many + 1 ≤ ((n + 1 : Nat) : Int); omega⟩
theorem PS.fresh_okN {n : Nat} (ok : st.okN n) (m : List (Int × Bool)) : ({ st with fresh := m } : PS).okN n :=
  ⟨ok.dl, ok.drow, ok.dall, ok.dnall, ok.acts, ok.key, ok.reads, ok.hits, ok.row, ok.rows, ok.old, ok.sl, ok.sf, ok.m0, ok.m1⟩
theorem PS.keep_okN {n : Nat} (ok : st.okN n) (r : Ref) (hr : RefOk r) (s : ByteArray) : (st.keep r s).okN (n + 1) := by
  have k := ok.mono (Nat.le_succ n)
  have hrows : ∀ x ∈ st.row ++ [r], RefOk x := fun x hx => by
    rw [List.mem_append, List.mem_singleton] at hx
    rcases hx with hx | rfl
    · exact ok.rows x hx
    · exact hr
  unfold PS.keep
  split
  · exact k
  · split
    · exact ⟨k.dl, k.drow, k.dall, k.dnall, k.acts, k.key, k.reads, k.hits, by have := ok.row; show (st.row ++ [r]).length ≤ n + 1; rw [List.length_append]; simp; omega, hrows, k.old, ok.sl, ok.sf, ok.m0, k.m1⟩
    · exact ⟨k.dl, k.drow, k.dall, k.dnall, k.acts, k.key, k.reads, k.hits, by have := ok.row; show (st.row ++ [r]).tail.length ≤ n + 1; rw [List.length_tail, List.length_append]; simp; omega, fun x hx => hrows x (List.mem_of_mem_tail hx), k.old, ok.sl, ok.sf, ok.m0, k.m1⟩
theorem i64_len {K : Nat} {s : SpS} {m : Nat} (h : s.free = some K) (hl : s.taken.length = m) (hm : m ≤ 100000) : I64 (K : Int) := by
  have := (SpS.free_some h).2.1
  exact ⟨by omega, by omega⟩
theorem PS.write_okN {n K : Nat} (ok : st.okN n) (hf : st.s.free = some K) (t : ByteArray) (ht : t.size ≤ 462) : (st.write t).1.okN (n + 3) := by
  unfold PS.write
  rw [hf]
  exact PS.keep_okN (PS.fresh_okN (PS.lay_okN (PS.take_okN ok) _ t ht) _) _ ⟨i64_len hf ok.sl ok.dl, by show (sumB _).size ≤ _; rw [sumB_size]; decide⟩ t
theorem PS.poke_okN {n : Nat} (ok : st.okN n) (k : Nat) (x : ByteArray) (hx : x.size = 512) : ({ st with d := st.d.poke k x } : PS).okN n :=
  ⟨by show (st.d.sure.set k x).length ≤ _; rw [List.length_set]; exact ok.dl, ok.drow, fun y hy => by
    have hy : y ∈ st.d.sure.set k x := hy
    rcases List.mem_or_eq_of_mem_set hy with h | rfl
    · exact ok.dall y h
    · exact hx, fun p hp => by
    have hp : p ∈ (st.d.poke k x).now := hp
    unfold DS.poke at hp
    dsimp only at hp
    split at hp
    · rcases mput_mem hp with rfl | hp
      · exact hx
      · exact ok.dnall p hp
    · exact ok.dnall p hp, ok.acts, ok.key, ok.reads, ok.hits, ok.row, ok.rows, ok.old, by show _ = (st.d.sure.set k x).length; rw [List.length_set]; exact ok.sl, ok.sf, ok.m0, ok.m1⟩
end
/-! ### What the book has seen -/
def Seen (b : BkS) (x : ByteArray) : Prop := b.twin = true ∨ mget b.sums (sumB x) = some x
theorem Seen.sum {b : BkS} {x : ByteArray} (h : Seen b x) (t : ByteArray) : Seen (b.sum t) x := by
  by_cases ht : b.twin = true
  · exact .inl (by rw [BkS.sum_twin ht]; exact ht)
  · have h : mget b.sums (sumB x) = some x := h.resolve_left ht
    have ht' : b.twin = false := by simpa using ht
    cases hm : mget b.sums (sumB t) with
    | some f =>
      by_cases hf : f = t
      · subst hf; rw [BkS.sum_same ht' hm]; exact .inr h
      · rw [BkS.sum_other ht' hm hf]; exact .inl rfl
    | none =>
      by_cases hl : 8192 ≤ b.sums.length
      · rw [BkS.sum_full ht' hm hl]; exact .inr h
      · rw [BkS.sum_new ht' hm hl]
        refine .inr ?_
        show mget (mput b.sums (sumB t) t) (sumB x) = some x
        rw [mget_mput]
        split
        · next e => rw [e] at hm; rw [hm] at h; cases h
        · exact h
theorem Seen.twin {b : BkS} {x c : ByteArray} (h : Seen b x) (he : sumB c = sumB x) (hne : c ≠ x) : (b.sum c).twin = true := by
  by_cases ht : b.twin = true
  · rw [BkS.sum_twin ht]; exact ht
  · have h : mget b.sums (sumB x) = some x := h.resolve_left ht
    have ht' : b.twin = false := by simpa using ht
    rw [← he] at h
    rw [BkS.sum_other ht' h (fun e => hne e.symm)]
theorem seen_first (x : ByteArray) : Seen (BkS.new.sum x) x := by
  rw [BkS.sum_new (s := BkS.new) rfl rfl (by decide)]
  refine .inr ?_
  show mget (mput [] (sumB x) x) (sumB x) = some x
  rw [mget_mput, if_pos rfl]
theorem DS.get_poke (s : DS) (k : Nat) (hk : k < s.sure.length) (x : ByteArray) : (s.poke k x).get k = x := by
  unfold DS.get DS.poke
  dsimp only
  split
  · rw [mget_mput, if_pos rfl]; rfl
  · next h =>
    have : mget s.now (k : Int) = none := by simpa using h
    rw [this]
    show (s.sure.set k x).getD k ⟨#[]⟩ = x
    simp [List.getD, hk]
theorem DS.get_write_other (s : DS) (k n : Nat) (hne : n ≠ k) (x : ByteArray) : (s.write (n : Int) x).get k = s.get k := by
  unfold DS.get DS.write
  dsimp only
  rw [mget_mput, if_neg (by omega)]
/-! ### PagerBent: the plain law -/
structure BentI (st : PS) (r : Ref) (b X : ByteArray) (kp : Bool) : Prop where
  get : st.d.get 2 = X
  len : st.d.sure.length = 6
  seen : Seen st.b X
  kept : mget st.kept r = if kp = true then some b else none
  key : ∃ hd, X = blockP st.v.key hd 2 b
  rf : r = ⟨2, sumB X⟩
def bent0 : PS := PS.new 6 1
def bentX (b : ByteArray) : ByteArray := ({ bent0 with s := bent0.s.take 2 } : PS).block (2 : Nat) b
def bentR (b : ByteArray) : Ref := ⟨2, sumB (bentX b)⟩
def bent1 (b : ByteArray) : PS := (bent0.write b).1
def t2B : ByteArray := ⟨#[97, 110, 111, 116, 104, 101, 114, 32, 111, 110, 101]⟩
def bent2 (b : ByteArray) (kp : Bool) : PS := if kp = true then bent1 b else ((bent1 b).write t2B).1
theorem bent0_free : bent0.s.free = some 2 := by rfl
theorem bent1_is (b : ByteArray) : bent1 b = ({ ({ bent0 with s := bent0.s.take 2 } : PS).lay (2 : Nat) b with fresh := mput bent0.fresh (2 : Nat) true } : PS).keep1 (bentR b) b := by
  unfold bent1 PS.write
  rw [bent0_free]
  exact PS.keep_new1 (st := { ({ bent0 with s := bent0.s.take 2 } : PS).lay (2 : Nat) b with fresh := mput bent0.fresh (2 : Nat) true }) (r := bentR b) (s := b) rfl (by show 0 + 1 ≤ mostN 1; decide)
theorem bent0_ref (b : ByteArray) : (bent0.write b).2 = (bentR b, 0) := by
  unfold PS.write
  rw [bent0_free]
  rfl
theorem bent1_I (b : ByteArray) : BentI (bent1 b) (bentR b) b (bentX b) true := by
  rw [bent1_is]
  refine ⟨DS.get_write _ 2 _, rfl, seen_first _, ?_, ⟨_, rfl⟩, rfl⟩
  show mget (mput [] (bentR b) b) (bentR b) = some b
  rw [mget_mput, if_pos rfl]
theorem bent1_free (b : ByteArray) : (bent1 b).s.free = some 3 := by
  rw [bent1_is]; rfl
theorem bent_again {s1 : PS} {r : Ref} {b X : ByteArray} (h1 : BentI s1 r b X true) (hr : s1.row = [r]) (hk : s1.kept = [(r, b)]) (hm : s1.most = 1) (hf : s1.s.free = some 3) (t : ByteArray) : BentI (s1.write t).1 r b X false := by
  obtain ⟨r2, hr2⟩ : ∃ r2 : Ref, r2 = ⟨((3 : Nat) : Int), sumB (({ s1 with s := s1.s.take 3 } : PS).block ((3 : Nat) : Int) t)⟩ := ⟨_, rfl⟩
  have hne : r ≠ r2 := by
    rw [h1.rf, hr2]
    intro e
    injection e with e1 e2
    cases e1
  obtain ⟨S, hS⟩ : ∃ S : PS, S = { ({ s1 with s := s1.s.take 3 } : PS).lay ((3 : Nat) : Int) t with fresh := mput s1.fresh ((3 : Nat) : Int) true } := ⟨_, rfl⟩
  have hSk : S.kept = [(r, b)] := by rw [hS]; exact hk
  have hSr : S.row = [r] := by rw [hS]; exact hr
  have hSm : S.most = 1 := by rw [hS]; exact hm
  have e : (s1.write t).1 = (S.keep1 r2 t).keep2 r [r2] := by
    have e1 : (s1.write t).1 = S.keep r2 t := by
      unfold PS.write
      rw [hf, hS, hr2]
      rfl
    rw [e1, PS.keep_new2 (by rw [hSk]; simp [mget, hne]) (by rw [hSr, hSm]; simp), hSr]
    rfl
  rw [e]
  refine ⟨?_, ?_, ?_, ?_, ?_, h1.rf⟩
  · show S.d.get 2 = X
    rw [hS]
    show (s1.d.write ((3 : Nat) : Int) _).get 2 = X
    rw [DS.get_write_other _ 2 3 (by decide)]
    exact h1.get
  · show S.d.sure.length = 6
    rw [hS]
    exact h1.len
  · show Seen S.b X
    rw [hS]
    exact h1.seen.sum _
  · show mget (mdel (mput S.kept r2 t) r) r = _
    rw [hSk, if_neg (by decide)]
    simp [mput, mdel, mget, hne, Ne.symm hne]
  · show ∃ hd, X = blockP S.v.key hd 2 b
    rw [hS]
    exact h1.key
theorem bent1_row (b : ByteArray) : (bent1 b).row = [bentR b] := by rw [bent1_is]; rfl
theorem bent1_kept (b : ByteArray) : (bent1 b).kept = [(bentR b, b)] := by rw [bent1_is]; rfl
theorem bent1_most (b : ByteArray) : (bent1 b).most = 1 := by rw [bent1_is]; rfl
theorem bent2_true (b : ByteArray) : bent2 b true = bent1 b := if_pos rfl
theorem bent2_false (b : ByteArray) : bent2 b false = ((bent1 b).write t2B).1 := if_neg (by decide)
theorem bent2_I (b : ByteArray) (kp : Bool) : BentI (bent2 b kp) (bentR b) b (bentX b) kp := by
  cases kp
  · rw [bent2_false]
    exact bent_again (bent1_I b) (bent1_row b) (bent1_kept b) (bent1_most b) (bent1_free b) _
  · rw [bent2_true]
    exact bent1_I b
theorem bent1_okN (b : ByteArray) (hb : b.size ≤ 462) : (bent1 b).okN 3 := PS.write_okN (PS.new_okN 6 1 (by omega)) bent0_free b hb
theorem bent2_okN (b : ByteArray) (hb : b.size ≤ 462) (kp : Bool) : (bent2 b kp).okN 6 := by
  cases kp
  · rw [bent2_false]
    exact PS.write_okN (bent1_okN b hb) (bent1_free b) _ (by decide)
  · rw [bent2_true]
    exact (bent1_okN b hb).mono (by omega)
/-- What the law asks of the last read. -/
def bentQ (kp : Bool) (X c : ByteArray) (b : ByteArray) (q : PS × ByteArray × Int) : Prop :=
  ((kp = true ∨ c = X ∨ q.1.b.twin = true) → (q.2.2 = 0 ∧ q.2.1 = b) ∨ q.1.b.twin = true) ∧ (¬ (kp = true ∨ c = X ∨ q.1.b.twin = true) → q.2.2 = 8 ∧ q.2.1 = ⟨#[]⟩)
theorem keep_b (st : PS) (r : Ref) (s : ByteArray) : (st.keep r s).b = st.b := by
  unfold PS.keep
  split
  · rfl
  · split <;> rfl
theorem bent_law {st : PS} {r : Ref} {b X c : ByteArray} {kp : Bool} (h : BentI st r b X kp) (hb : b.size ≤ 462) : bentQ kp X c b (({ st with d := st.d.poke 2 c } : PS).read r) := by
  have hs : r.sum = sumB X := by rw [h.rf]
  have hp : r.place = 2 := by rw [h.rf]
  have h32 : ¬ r.sum.size ≠ 32 := by rw [hs, sumB_size]; decide
  have hg : (st.d.poke 2 c).get 2 = c := DS.get_poke st.d 2 (by rw [h.len]; decide) c
  have hl : (st.d.poke 2 c).sure.length = 6 := by
    show (st.d.sure.set 2 c).length = 6
    rw [List.length_set, h.len]
  obtain ⟨hd, hX⟩ := h.key
  cases kp
  · have hm : mget st.kept r = none := h.kept
    have hB : hasB 2 (st.d.poke 2 c).sure.length = true := by rw [hl]; decide
    obtain ⟨S, hS⟩ : ∃ S : PS, S = { st with d := st.d.poke 2 c } := ⟨_, rfl⟩
    have hSg : S.d.get 2 = c := by rw [hS]; exact hg
    have hSk : S.v.key = st.v.key := by rw [hS]
    have hSm : mget S.kept r = none := by rw [hS]; exact hm
    have hSb : Seen S.b X := by rw [hS]; exact h.seen
    have hSB : hasB 2 S.d.sure.length = true := by rw [hS]; exact hB
    rw [← hS]
    have hV : S.fetV r.place r.sum = S.fetchV 2 (sumB X) := by
      unfold PS.fetV
      rw [hp, hs, if_pos hSB]
      rfl
    have hT : S.fetS r.place r.sum = S.fetchS 2 (sumB X) := by
      unfold PS.fetS
      rw [hp, hs, if_pos hSB]
      rfl
    have hTb : (S.fetchS 2 (sumB X)).b = S.b.sum c := by
      unfold PS.fetchS
      rw [if_neg (sumB_full X), hSg]
    have hR : S.read r = if (S.fetchV 2 (sumB X)).2.2.2 = 0 then ((S.fetchS 2 (sumB X)).keep r (S.fetchV 2 (sumB X)).2.1, (S.fetchV 2 (sumB X)).2.1, 0) else (S.fetchS 2 (sumB X), (S.fetchV 2 (sumB X)).2.1, (S.fetchV 2 (sumB X)).2.2.2) := by
      unfold PS.read
      rw [if_neg h32, hSm]
      dsimp only
      rw [hV, hT]
    have hb2 : (S.read r).1.b = S.b.sum c := by
      rw [hR]
      split
      · show ((S.fetchS 2 (sumB X)).keep r _).b = _
        rw [keep_b, hTb]
      · exact hTb
    by_cases he : sumB c = sumB X
    · by_cases hc : c = X
      · have hF : S.fetchV 2 (sumB X) = (hd, b, c, 0) := by
          have hgp : bgetF S.v.key 2 c = (hd, b, 0) := by rw [hSk, hc, hX]; exact bget_put _ _ _ _ hb
          unfold PS.fetchV
          rw [hSg]
          have hgp' : bgetF S.v.key ((2 : Nat) : Int) c = (hd, b, 0) := hgp
          rw [hgp', if_neg (by rw [he]; simp), if_neg (by simp)]
        have h0 : S.read r = ((S.fetchS 2 (sumB X)).keep r b, b, 0) := by rw [hR, hF]; rfl
        rw [h0]
        exact ⟨fun _ => .inl ⟨rfl, rfl⟩, fun hn => absurd (.inr (.inl hc)) hn⟩
      · have ht : (S.read r).1.b.twin = true := by rw [hb2]; exact hSb.twin he hc
        exact ⟨fun _ => .inr ht, fun hn => absurd (.inr (.inr ht)) hn⟩
    · have hF : S.fetchV 2 (sumB X) = (hdZ, ⟨#[]⟩, ⟨#[]⟩, 8) := by
        unfold PS.fetchV
        rw [hSg, if_pos ⟨sumB_full X, he⟩]
      have h0 : S.read r = (S.fetchS 2 (sumB X), ⟨#[]⟩, 8) := by rw [hR, hF]; rfl
      rw [h0]
      refine ⟨fun hq => ?_, fun _ => ⟨rfl, rfl⟩⟩
      rcases hq with hq | hq | hq
      · cases hq
      · exact absurd (by rw [hq]) he
      · exact .inr hq
  · have hm : mget st.kept r = some b := h.kept
    have h0 : ({ st with d := st.d.poke 2 c } : PS).read r = ({ st with d := st.d.poke 2 c, hits := st.hits + 1 }, b, 0) := by
      unfold PS.read
      rw [if_neg h32]
      show (match mget st.kept r with | some s => _ | none => _) = _
      rw [hm]
    rw [h0]
    exact ⟨fun _ => .inl ⟨rfl, rfl⟩, fun hn => absurd (.inl rfl) hn⟩
/-! ### PagerBent: the walk -/
theorem wpList_toBytes_n {w : World} {ops : Array Oper} {rest : List Oper} {o : Oper} {a : Act} {Q : Exit → Act → World → Prop} (hgd : o.guard = none) (x : Operand)
    (ho : o.op = .convert 9 57 x) (s : ByteArray) (n : Nat) (hn : s.size = n) (hx : a.eval x = .string s)
    (hK : ∀ cap w', OwnB w' w.heap.size (.slice (some ⟨w.heap.size, 0, none⟩) n cap) s.data.toList → Below w.heap.size w w' → w'.heap.size = w.heap.size + 1 → wpList Tryz.prog ops Q rest (a.put o.dst (.slice (some ⟨w.heap.size, 0, none⟩) n cap)) w') : wpList Tryz.prog ops Q (o :: rest) a w := by
  subst hn
  exact wpList_toBytes hgd x ho s hx hK
/-- Within the loop: all is kept, the bytes are the call's own. -/
structure BL (W wr : World) (i : Ids) (st : PS) (g gb cap : Nat) (cs : Array Value) (L : List UInt8) (own : Nat → Nat) : Prop where
  sys : SysC wr i st own
  kp : Keeps W wr (fun _ => 0) own
  ob : OwnB wr g (.slice (some ⟨g, 0, none⟩) 512 cap) L
  z : own g = 0
  g0 : W.heap.size ≤ g
  gp : g ≠ 0
  bx : Blk wr gb 54 cs
  zb : own gb = 0
  ne : gb ≠ g
theorem BL.step {W wr wq : World} {i : Ids} {st : PS} {g gb cap : Nat} {cs : Array Value} {L L2 : List UInt8} {own : Nat → Nat} (h : BL W wr i st g gb cap cs L own) (ho : Only wr wq [g]) (hob : OwnB wq g (.slice (some ⟨g, 0, none⟩) 512 cap) L2) : ∃ own', BL W wq i st g gb cap cs L2 own' := by
  obtain ⟨_, _, hgl, _⟩ := h.ob.at_
  obtain ⟨h1, k1⟩ := h.sys.off h.kp (S := [g]) ho (fun x hx => by
    rw [List.mem_singleton] at hx
    subst hx
    exact ⟨h.z, h.gp, h.g0⟩)
  exact ⟨_, h1, k1, hob, by rw [mark_old hgl]; exact h.z, h.g0, h.gp, ho.blk h.bx (by simpa using h.ne), by rw [mark_old h.bx.lt]; exact h.zb, h.ne⟩
theorem OwnB.keeps {w w' : World} {own own' : Nat → Nat} {g n cap : Nat} {l : List UInt8} (h : OwnB w g (.slice (some ⟨g, 0, none⟩) n cap) l) (k : Keeps w w' own own') (z : own g = 0) : OwnB w' g (.slice (some ⟨g, 0, none⟩) n cap) l := by
  rcases h with ⟨hv, _⟩ | ⟨g', o', cap', hv, hg, hl, hc, h1, h2⟩
  · cases hv
  · injection hv with e1 e2 e3
    injection e1 with e1
    injection e1 with e4 e5 _
    subst e4; subst e5; subst e2; subst e3
    have hb := k.block g hl z
    have c : ∀ j, w'.cell? ⟨g, j, none⟩ = w.cell? ⟨g, j, none⟩ := fun j => by unfold World.cell?; rw [hb]
    have f : ∀ j, w'.frozen? ⟨g, j, none⟩ = w.frozen? ⟨g, j, none⟩ := fun j => by unfold World.frozen?; rw [hb]
    exact .inr ⟨g, 0, cap, rfl, hg, Nat.lt_of_lt_of_le hl k.size, hc, fun j u hj => by rw [c]; exact h1 j u hj, fun j hj => by rw [c, f]; exact h2 j hj⟩
theorem bent_cut (s : ByteArray) : (s.extract 0 (min s.size 400)).size ≤ 462 := by
  rw [ByteArray.size_extract]; omega
set_option maxHeartbeats 4000000 in
set_option maxRecDepth 100000 in
theorem bent_walk (W : World) (hT : Salts W) (s : ByteArray) (hs : s.size ≤ maxLen) (by_ : ByteArray) (hby : by_.size ≤ maxLen) (kp : Bool) :
    Calls Tryz.prog 5 #[.string s, .string by_, .bool kp] W fun e w' => e = .returned (.bool true) ∧ Below W.heap.size W w' := by
  have HM : Hid (Calls Tryz.prog 16 #[.int .i64 6, .int .i64 1] W (Made 6 1 W)) := made_ok 6 1 (by omega) (by omega) W hT
  have hB := bent_cut s
  have hsl := fun w => slice_to s ((min s.size 400 : Nat) : Int) (min s.size 400) rfl (Nat.min_le_left _ _) w
  obtain ⟨B, hBe⟩ : ∃ B, B = s.extract 0 (min s.size 400) := ⟨_, rfl⟩
  rw [← hBe] at hB hsl
  have HW1 := Lib.hid (fun w1 i own (h1 : SysC w1 i bent0 own) => write_some h1 (PS.new_okN 6 1 (by omega)) (by omega) bent0_free B hB)
  have HW2 := Lib.hid (fun w1 i own (h1 : SysC w1 i (bent1 B) own) => write_some h1 (bent1_okN B hB) (by omega) (bent1_free B) t2B (by decide))
  have HI := Lib.hid (bent2_I B kp)
  have HOK := Lib.hid (bent2_okN B hB kp)
  have HBL : Hid (B.size ≤ 462) := hB
  rw [bent0_ref] at HW1
  unfold Ref.v Ref.cells at HW1
  have hp : (bentR B).place = 2 := rfl
  have hsum : (bentR B).sum = sumB (bentX B) := rfl
  dsimp only at HW1
  rw [hp, hsum] at HW1
  generalize bentX B = X at *
  obtain ⟨sx, hsx⟩ : ∃ sx, sx = sumB X := ⟨_, rfl⟩
  rw [← hsx] at HW1 hsum
  have HRF : Hid (bentR B = ⟨2, sx⟩) := by rw [hsx]; exact HI.out.rf
  have HRO : Hid (RefOk (bentR B)) := ⟨by rw [hp]; exact ⟨by decide, by decide⟩, by rw [hsum, hsx, sumB_size]; decide⟩
  have HX : Hid (X.size = 512) := by
    obtain ⟨hd, hX⟩ := HI.out.key
    rw [hX]
    exact blockP_size _ _ _ _ HBL.out
  unfold t2B at HW2
  have hmin : min (s.size : Int) 400 = ((min s.size 400 : Nat) : Int) := by omega
  clear hB hBe hT hp hsum hsx
  go_enter Tryz.func5, Tryz.ntmps5
  go_wp2_with fail
  refine HM.out.mono ?_
  rintro e w1 ⟨i, own1, rfl, h1, hb1, hz1⟩
  have H1 := Lib.hid h1
  have K1 := Lib.hid (keeps_made hb1 hz1)
  clear h1 hb1 hz1 HM
  go_wp2_with fail
  refine (HW1.out _ _ _ H1.out).mono ?_
  rintro e w2 ⟨rfl, own2, h2, k2⟩
  have H2 := Lib.hid h2
  have HA : Hid (Blk (w2.alloc (.cells #[.int .i64 0, .string ⟨#[]⟩] 54)) w2.heap.size 54 #[.int .i64 0, .string ⟨#[]⟩]) := Blk.new w2 54 _
  obtain ⟨own3, h3, k3, b3, z3⟩ := one_box h2 54 #[.int .i64 0, .string ⟨#[]⟩] #[.int .i64 2, .string sx]
  have H3 := Lib.hid h3
  have K3 := Lib.hid ((K1.out.trans k2).trans k3)
  have B3 := Lib.hid b3
  have Z3 := Lib.hid z3
  have G3 : Hid (W.heap.size ≤ w2.heap.size) := (K1.out.trans k2).size
  clear h2 k2 h3 k3 b3 z3 HW1 H1 H2 K1
  go_wp2_with (first
    | (refine wpList_store_row rfl 54 (.tmp 12) (.tmp 38) (by rfl) w2.heap.size #[.int .i64 2, .string sx] (by rfl) (by rfl) 54 _ HA.out info54 (by rfl) (by simp [Value.oneCell']) ?_; generalize (w2.alloc (.cells #[.int .i64 0, .string ⟨#[]⟩] 54)).setRow w2.heap.size #[.int .i64 2, .string sx] = w3 at *)
    | fail)
  refine (aw_ok _ H3.out.salts).mono ?_
  rintro e w4 ⟨rfl, hb⟩
  obtain ⟨h4, k4⟩ := H3.out.none_step (only_of_below hb)
  have B4 := Lib.hid (k4.blk B3.out Z3.out)
  have Z4 := Lib.hid ((k4.same _ B3.out.lt).trans Z3.out)
  have K4 := Lib.hid (K3.out.trans k4)
  have H4 := Lib.hid h4
  clear h4 k4 hb H3 K3 B3 Z3 HA
  generalize mark w3 own3 0 = own4 at *
  go_upto_if 47 with fail
  go_cut [] (fun wc => ∃ own, SysC wc i (bent2 B kp) own ∧ Keeps W wc (fun _ => 0) own ∧ Blk wc w2.heap.size 54 #[.int .i64 2, .string sx] ∧ own w2.heap.size = 0)
  case first =>
    cases kp
    · go_wp2_with fail
      refine (HW2.out _ _ _ H4.out).mono ?_
      rintro e w5 ⟨rfl, own5, h5, k5⟩
      have D5 : Hid (∃ own, SysC w5 i (bent2 B false) own ∧ Keeps W w5 (fun _ => 0) own ∧ Blk w5 w2.heap.size 54 #[.int .i64 2, .string sx] ∧ own w2.heap.size = 0) := by
        rw [bent2_false]
        exact ⟨own5, h5, K4.out.trans k5, k5.blk B4.out Z4.out, (k5.same _ B4.out.lt).trans Z4.out⟩
      clear h5 k5 HW2 H4
      go_wp2_with fail
      go_meet
      exact D5.out
    · go_wp2_with fail
      go_meet
      rw [bent2_true]
      exact ⟨own4, H4.out, K4.out, B4.out, Z4.out⟩
  case rest =>
    obtain ⟨own6, h6, k6, b6, z6⟩ := hcut
    generalize bent2 B kp = st at *
    have HD : Hid (Calls Tryz.prog 18 #[.pointer (some ⟨i.d, 0, none⟩), .int .i64 2] wc fun e w' => e = .returned (.tuple #[.string X, .int .i64 0]) ∧ wc = w') := by
      have := pdread_ok h6 HOK.out.dl 2 (by rw [HI.out.len]; decide)
      rw [HI.out.get] at this
      exact this
    have H6 := Lib.hid h6
    have K6 := Lib.hid k6
    have B6 := Lib.hid b6
    have Z6 := Lib.hid z6
    have b60 := b6.cell 0
    have hG3 : Hid (wc.heap.size ≠ 0) := by have := h6.salts.1; show _ ≠ _; omega
    clear h6 k6 b6 z6 HW2 H4 K4 B4 Z4
    go_wp2_with (first | (refine HD.out.mono ?_; rintro e w7 ⟨rfl, rfl⟩; clear HD) | (refine wpList_toBytes_n rfl (.tmp 57) (by rfl) X 512 HX.out (by rfl) ?_; intro cap w7 ho hb hz; have HO := Lib.hid ho; have HB := Lib.hid hb; clear ho hb hz) | fail)
    have BL0 : Hid (BL W w7 i st wc.heap.size w2.heap.size cap #[.int .i64 2, .string sx] X.data.toList (mark wc own6 0)) := by
      obtain ⟨h7, k7⟩ := H6.out.none_step (only_of_below HB.out)
      exact ⟨h7, K6.out.trans k7, HO.out, mark_new (Nat.le_refl _), K6.out.size, hG3.out, k7.blk B6.out Z6.out, (k7.same _ B6.out.lt).trans Z6.out, by have := B6.out.lt; omega⟩
    have HXL : Hid (X.data.toList.length = 512) := by show _ = 512; simpa using HX.out
    clear HO HB H6 K6 B6 Z6 b60 hG3
    generalize mark wc own6 0 = own7 at *
    generalize wc.heap.size = g at *
    go_loopg [17] by_.size (fun q v wr => ∃ (j : Nat) (L : List UInt8) (own : Nat → Nat), q + j = by_.size ∧ v = .int .i64 (j : Int) ∧ BL W wr i st g w2.heap.size cap #[.int .i64 2, .string sx] L own)
    case atStart => exact ⟨0, _, own7, rfl, rfl, BL0.out⟩
    case round =>
      obtain ⟨j, L, own8, hj, rfl, hbl⟩ := hrel
      have R := Lib.hid hbl
      clear hbl BL0
      by_cases hin : j < by_.size ∧ j < 512
      · obtain ⟨hj1, hj2⟩ := hin
        have hd1 : decide ((j : Int) < (by_.size : Int)) = true := by simp; omega
        have hd2 : decide ((j : Int) < 512) = true := by simp; omega
        obtain ⟨k, hk⟩ : ∃ k : Nat, k = (j * 37) % 512 := ⟨_, rfl⟩
        have hk5 : k < 512 := by omega
        have hkm : ((j : Int) * 37).tmod 512 = (k : Int) := by rw [Int.tmod_eq_emod_of_nonneg (by omega)]; omega
        have hw1 : IntKind.i64.wrap ((j : Int) * 37) = (j : Int) * 37 := wrap_in _ (by omega) (by omega)
        have hw2 : wrap64 ((j : Int) * 37) = (j : Int) * 37 := w64_small _ (by omega) (by omega)
        obtain ⟨hLl, _, hgl, hcap, hcell, hfr⟩ := R.out.ob.at_
        have c1 := hcell k (by rw [hLl]; exact hk5)
        have c2 := hfr k (by omega)
        rw [Nat.zero_add] at c1 c2
        have HS := Lib.hid (fun (x : UInt8) => R.out.ob.set k hk5 x)
        have hix := fun w => ix_str by_ j (j : Int) rfl hj1 w
        have hk0 : (0 : Int) ≤ (k : Int) := by omega
        have hk1 : (k : Int) < 512 := by omega
        have hk2 : (k : Int) < cap := by omega
        have hcp : (512 : Int) ≤ cap := by omega
        clear hcell hfr hk HS
        generalize L[k] = x at *
        generalize gb by_ j = y at *
        have HS2 : Hid (∃ (L2 : List UInt8) (own' : Nat → Nat), BL W ((wr.setCell ⟨g, k, none⟩ (.int .u8 (n8 (x ^^^ y)))).drew) i st g w2.heap.size cap #[.int .i64 2, .string sx] L2 own') := by
          have hq := R.out.ob.set k hk5 (x ^^^ y)
          rw [Nat.zero_add] at hq
          exact ⟨_, R.out.step (((Only.refl wr _).setCell (by simp) _).drewN 1) hq.drew⟩
        go_wp2_with fail
        refine wp_region_plan (fun w' => w'.cell? ⟨g, k, none⟩ = some (.int .u8 (n8 x))) 13 [(true, 0), (true, 1), (true, 2), (true, 3), (true, 4), (true, 5), (true, 6), (true, 7), (true, 8), (true, 9), (true, 10), (true, 11), (true, 12)] (by kernel_rfl) (by kernel_rfl) c1 ?_
        simp only [List.map_cons, List.map_nil, List.getD_cons_zero, List.getD_cons_succ, List.drop_succ_cons, List.drop_zero]
        (refine plan_take (v := ?_) rfl ?_ ?_; rotate_left; (intro wS hSw; (try dsimp only at hSw); go_simp; try with_reducible rfl); simp only [Act.put, List.setIfInBounds_toArray, List.set_cons_zero, List.set_cons_succ])
        (refine plan_take (v := ?_) rfl ?_ ?_; rotate_left; (intro wS hSw; (try dsimp only at hSw); go_simp; try with_reducible rfl); simp only [Act.put, List.setIfInBounds_toArray, List.set_cons_zero, List.set_cons_succ])
        (refine plan_take (v := ?_) rfl ?_ ?_; rotate_left; (intro wS hSw; (try dsimp only at hSw); go_simp; try with_reducible rfl); simp only [Act.put, List.setIfInBounds_toArray, List.set_cons_zero, List.set_cons_succ])
        (refine plan_take (v := ?_) rfl ?_ ?_; rotate_left; (intro wS hSw; (try dsimp only at hSw); go_simp; try with_reducible rfl); simp only [Act.put, List.setIfInBounds_toArray, List.set_cons_zero, List.set_cons_succ])
        (refine plan_take (v := ?_) rfl ?_ ?_; rotate_left; (intro wS hSw; (try dsimp only at hSw); go_simp; try with_reducible rfl); simp only [Act.put, List.setIfInBounds_toArray, List.set_cons_zero, List.set_cons_succ])
        (refine plan_take (v := ?_) rfl ?_ ?_; rotate_left; (intro wS hSw; (try dsimp only at hSw); go_simp; try with_reducible rfl); simp only [Act.put, List.setIfInBounds_toArray, List.set_cons_zero, List.set_cons_succ])
        (refine plan_take (v := ?_) rfl ?_ ?_; rotate_left; (intro wS hSw; (try dsimp only at hSw); go_simp; try with_reducible rfl); simp only [Act.put, List.setIfInBounds_toArray, List.set_cons_zero, List.set_cons_succ])
        (refine plan_take (v := ?_) rfl ?_ ?_; rotate_left; (intro wS hSw; (try dsimp only at hSw); go_simp; try with_reducible rfl); simp only [Act.put, List.setIfInBounds_toArray, List.set_cons_zero, List.set_cons_succ])
        (refine plan_take (v := ?_) rfl ?_ ?_; rotate_left; (intro wS hSw; (try dsimp only at hSw); go_simp; try with_reducible rfl); simp only [Act.put, List.setIfInBounds_toArray, List.set_cons_zero, List.set_cons_succ])
        (refine plan_take (v := ?_) rfl ?_ ?_; rotate_left; (intro wS hSw; (try dsimp only at hSw); go_simp; try with_reducible rfl); simp only [Act.put, List.setIfInBounds_toArray, List.set_cons_zero, List.set_cons_succ])
        (refine plan_take (v := ?_) rfl ?_ ?_; rotate_left; (intro wS hSw; (try dsimp only at hSw); go_simp; try with_reducible rfl); simp only [Act.put, List.setIfInBounds_toArray, List.set_cons_zero, List.set_cons_succ])
        (refine plan_take (v := ?_) rfl ?_ ?_; rotate_left; (intro wS hSw; (try dsimp only at hSw); go_simp; try with_reducible rfl); simp only [Act.put, List.setIfInBounds_toArray, List.set_cons_zero, List.set_cons_succ])
        (refine plan_take (v := ?_) rfl ?_ ?_; rotate_left; (intro wS hSw; (try dsimp only at hSw); go_simp; try with_reducible rfl); simp only [Act.put, List.setIfInBounds_toArray, List.set_cons_zero, List.set_cons_succ])
        refine plan_nil ?_
        go_wp2_with fail
        refine NoPanic.normal ?_
        go_wp2_with fail
        obtain ⟨L2, own9, hb9⟩ := HS2.out
        go_roundg (gk - 1)
        case measure => omega
        case rel => exact ⟨j + 1, L2, own9, by omega, by go_num, hb9⟩
      · have hcv := conv_ob R.out.ob
        obtain ⟨hLl, _⟩ := R.out.ob.at_
        obtain ⟨C, hC⟩ : ∃ C : ByteArray, C = ⟨L.toArray⟩ := ⟨_, rfl⟩
        have hCs : C.size = 512 := by rw [hC]; show L.toArray.size = 512; simpa using hLl
        rw [← hC] at hcv
        have HC := Lib.hid hC
        clear hC hLl
        have HP : Hid (Calls Tryz.prog 29 #[.pointer (some ⟨i.d, 0, none⟩), .int .i64 2, .string C] wr (PT i wr own8 { st with d := st.d.poke 2 C } (.bool true))) := ppoke_ok R.out.sys HOK.out (by omega) 2 (by rw [HI.out.len]; decide) C hCs
        have hRD := fun w1 own1 (h1 : SysC w1 i { st with d := st.d.poke 2 C } own1) => pread_ok h1 (PS.poke_okN HOK.out 2 C hCs) (by omega) (bentR B) HRO.out
        have hQ := bent_law (c := C) HI.out HBL.out
        rw [HRF.out] at hRD hQ
        have HTW := Lib.hid (fun w1 own1 st' (h1 : SysC w1 i st' own1) => ptwins_ok h1)
        generalize { st with d := st.d.poke 2 C } = st3 at *
        generalize st3.read ⟨2, sx⟩ = q at *
        obtain ⟨st4, f, u⟩ := q
        have HRD := Lib.hid hRD
        have HQ := Lib.hid hQ
        unfold bentQ at HQ
        dsimp only at HRD HQ
        clear hRD hQ hCs
        have b0 := R.out.bx.cell 0
        have HD : Hid ((decide ((j : Int) < (by_.size : Int)) = true ∧ decide ((j : Int) < 512) = false ∧ ¬ j < 512 ∧ j < by_.size) ∨ (decide ((j : Int) < (by_.size : Int)) = false ∧ ¬ j < by_.size)) := by
          show _ ∨ _
          by_cases h : j < by_.size
          · exact .inl ⟨by simp; omega, by simp; omega, by omega, h⟩
          · exact .inr ⟨by simp; omega, h⟩
        clear hin hj
        obtain hd := HD.out
        rcases hd with ⟨hd1, hd2, hd3, hd4⟩ | ⟨hd1, hd3⟩
        all_goals
          clear HD
          go_wp2_with fail
          refine HP.out.mono ?_
          rintro e w9 ⟨rfl, own9, h9, k9⟩
          have H9 := Lib.hid h9
          have K9 := Lib.hid (R.out.kp.trans k9)
          have B9 := Lib.hid (k9.blk R.out.bx R.out.zb)
          have O9 := Lib.hid (R.out.ob.keeps k9 R.out.z)
          have Z9 := Lib.hid ((k9.same _ R.out.ob.at_.2.2.1).trans R.out.z)
          clear h9 k9 HP R b0 hcv
          go_wp2_with (first
            | (refine wpList_load_row rfl 54 (.tmp 12) (by rfl) w2.heap.size (by rfl) 54 #[.int .i64 2, .string sx] (0, 0) _ B9.out Tryz.underlying54 rfl info54 ?_)
            | fail)
          refine (HRD.out _ _ H9.out).mono ?_
          rintro e w10 ⟨rfl, own10, h10, k10⟩
          have H10 := Lib.hid h10
          have K10 := Lib.hid (K9.out.trans k10)
          have O10 := Lib.hid (O9.out.keeps k10 Z9.out)
          have Z10 := Lib.hid ((k10.same _ O9.out.at_.2.2.1).trans Z9.out)
          clear h10 k10 HRD H9 K9 B9 Z9 O9
          go_wp2_with fail
          refine (HTW.out _ _ _ H10.out).mono ?_
          rintro e w11 ⟨rfl, own11, h11, k11⟩
          have K11 := Lib.hid (K10.out.trans k11)
          have O11 := O10.out.keeps k11 Z10.out
          have hcv := conv_ob O11
          have hcn := fun n => conv_ob (O11.drewN n)
          rw [← HC.out] at hcv hcn
          clear h11 k11 HTW H10 K10 O10 Z10 O11
          generalize st4.b.twin = tw at *
          by_cases hP : kp = true ∨ C = X ∨ tw = true
          · have hq := HQ.out.1 hP
            cases tw
            · obtain ⟨hu, hf⟩ := hq.resolve_right (by decide)
              subst hu
              rw [hf]
              have hS2 : (B.toList == B.toList) = true := by simp
              clear HQ hq
              cases kp
              · have hc : C = X := by simpa using hP
                have hS1 : (C.toList == X.toList) = true := by rw [hc]; simp
                clear hP hf
                go_wp2_with fail
                go_ret
                exact ⟨rfl, below_of_keeps K11.out⟩
              · clear hP hf
                go_wp2_with fail
                go_ret
                exact ⟨rfl, below_of_keeps K11.out⟩
            · clear HQ hq hP
              by_cases hc : C = X
              · have hS1 : (C.toList == X.toList) = true := by rw [hc]; simp
                clear hc
                cases kp <;> cases hU : (u == (0 : Int))
                all_goals
                  by_cases hf : f = B
                  · have hS2 : (f.toList == B.toList) = true := by rw [hf]; simp
                    clear hf
                    go_wp2_with fail
                    go_ret
                    exact ⟨rfl, below_of_keeps K11.out⟩
                  · have hS2 := bool_str_ne hf
                    clear hf
                    go_wp2_with fail
                    go_ret
                    exact ⟨rfl, below_of_keeps K11.out⟩
              · have hS1 := bool_str_ne hc
                clear hc
                cases kp <;> cases hU : (u == (0 : Int))
                all_goals
                  by_cases hf : f = B
                  · have hS2 : (f.toList == B.toList) = true := by rw [hf]; simp
                    clear hf
                    go_wp2_with fail
                    go_ret
                    exact ⟨rfl, below_of_keeps K11.out⟩
                  · have hS2 := bool_str_ne hf
                    clear hf
                    go_wp2_with fail
                    go_ret
                    exact ⟨rfl, below_of_keeps K11.out⟩
          · obtain ⟨hu, hf⟩ := HQ.out.2 hP
            subst hu
            subst hf
            clear HQ
            cases kp
            · cases tw
              · have hc : ¬ C = X := fun e => hP (.inr (.inl e))
                have hS1 := bool_str_ne hc
                clear hP hc
                go_wp2_with fail
                go_ret
                exact ⟨rfl, below_of_keeps K11.out⟩
              · exact absurd (.inr (.inr rfl)) hP
            · exact absurd (.inl rfl) hP

end Go.Proofs.YtimpjlnbbdfehaaGreatDoor
