import Derived.Test.YtimpjlnbbdfehaaGreatDoorGE
import Derived.Test.YtimpjlnbbdfehaaGreatDoorGD
import Derived.Test.YtimpjlnbbdfehaaGreatDoorGA
namespace Go.Proofs.YtimpjlnbbdfehaaGreatDoor
open Go.RowKit Go.Shelf Go.Lib Go.Sort
set_option linter.unusedVariables false
attribute [local go_sem ↓] shr_32_1 shl_32_1 shr_32_2 shl_32_2 shr_32_3 shl_32_3 shr_32_4 shl_32_4 shr_32_5 shl_32_5 shr_32_6 shl_32_6 shr_32_7 shl_32_7 shr_32_8 shl_32_8 shr_32_9 shl_32_9 shr_32_10 shl_32_10 shr_32_11 shl_32_11 shr_32_12 shl_32_12 shr_32_13 shl_32_13 shr_32_14 shl_32_14 shr_32_15 shl_32_15 shr_32_16 shl_32_16 shr_32_17 shl_32_17 shr_32_18 shl_32_18 shr_32_19 shl_32_19 shr_32_20 shl_32_20 shr_32_21 shl_32_21 shr_32_22 shl_32_22 shr_32_23 shl_32_23 shr_32_24 shl_32_24 shr_32_25 shl_32_25 shr_32_26 shl_32_26 shr_32_27 shl_32_27 shr_32_28 shl_32_28 shr_32_29 shl_32_29 shr_32_30 shl_32_30 shr_32_31 shl_32_31 shr_64_3 shl_64_3 shr_64_7 shl_64_7 shr_64_8 shl_64_8 shr_64_16 shl_64_16 shr_64_24 shl_64_24 shr_64_32 shl_64_32 shr_64_40 shl_64_40 shr_64_48 shl_64_48 shr_64_56 shl_64_56
attribute [local go_sem] add_u32 add_u64 and_u8 or_u8 xor_u8 and_u32 or_u32 xor_u32 and_u64 or_u64 xor_u64 conv_32_8 conv_64_8 conv_64_32 conv_8_32 conv_8_64 conv_32_64

/-! ### Pages: references, and all of a pager's memory -/
structure Ref where
  place : Int
  sum : ByteArray
instance : DecidableEq Ref := fun a b => decidable_of_iff (a.place = b.place ∧ a.sum = b.sum) (by cases a; cases b; simp)
def Ref.cells (r : Ref) : List Value := [.int .i64 r.place, .string r.sum]
def Ref.v (r : Ref) : Value := .agg r.cells.toArray
theorem refv_inj (x y : Ref) (h : x.v = y.v) : x = y := by
  cases x with | mk a b => cases y with | mk c d =>
  unfold Ref.v Ref.cells at h
  simp at h
  rw [h.1, h.2]
def refs (l : List Ref) : List Value := l.flatMap Ref.cells
structure SpS where
  taken : List Bool
  first : Int
  many : Int
structure PS where
  d : DS
  v : VS
  b : BkS
  s : SpS
  most : Nat
  kept : List (Ref × ByteArray)
  row : List Ref
  epoch : UInt32
  at_ : UInt64
  index : UInt32
  fresh : List (Int × Bool)
  old : List Int
  reads : Nat
  hits : Nat
/-- Where the parts of a pager lie. -/
structure Ids where
  p : Nat
  d : Nat
  v : Nat
  b : Nat
  s : Nat
def ptr (g : Nat) : Value := .pointer (some ⟨g, 0, none⟩)
/-- A pager's own blocks. -/
structure PgC (w : World) (i : Ids) (kb fb : Nat) (rv ov : Value) (st : PS) : Prop where
  box : Blk w i.p 126 #[ptr i.d, ptr i.v, ptr i.b, ptr i.s, .int .i64 (st.most : Int), .map (some kb), rv, .int .u32 (n32 st.epoch), .int .u64 (n64 st.at_), .int .u32 (n32 st.index), .map (some fb), ov, .int .i64 (st.reads : Int), .int .i64 (st.hits : Int)]
  kept : MapR Tryz.prog 54 Ref.v Value.string w kb st.kept
  fresh : MapR Tryz.prog 3 ki Value.bool w fb st.fresh
  row : Mid w 1 54 2 rv st.row.length (refs st.row)
  old : Mid w 1 3 1 ov st.old.length (ints st.old)
  p1 : 0 < i.p
  p2 : 0 < kb
  p3 : 0 < fb
  ne : kb ≠ fb
def pfp (p kb fb : Nat) (rv ov : Value) : List Nat := p :: kb :: fb :: (rv.ownBlock.toList ++ ov.ownBlock.toList)
/-- All of it; own k: whose block k is (1 the disk's, 2 the device's, 3 the book's, 4 the space's, 5 the pager's; 0: none of them). -/
structure SysC (w : World) (i : Ids) (st : PS) (own : Nat → Nat) : Prop where
  disk : ∃ F, DiskR w i.d st.d F ∧ ∀ x ∈ F, own x = 1
  dev : DevC w i.v i.d st.v ∧ own i.v = 2
  book : ∃ F, BookR w i.b st.b F ∧ ∀ x ∈ F, own x = 3
  space : ∃ sb, Sp w i.s sb st.s.taken st.s.first st.s.many ∧ own i.s = 4 ∧ own sb = 4 ∧ 0 < i.s ∧ 0 < sb
  pg : ∃ kb fb rv ov, PgC w i kb fb rv ov st ∧ ∀ x ∈ pfp i.p kb fb rv ov, own x = 5
  salts : Salts w
  zero : own 0 = 0
/-- Only blocks of theirs are turned, and whose a block is stays. -/
structure Keeps (w w' : World) (own own' : Nat → Nat) : Prop where
  os : w'.os = w.os
  tape : w'.tape = w.tape
  output : w'.output = w.output
  size : w.heap.size ≤ w'.heap.size
  block : ∀ k, k < w.heap.size → own k = 0 → w'.heap[k]? = w.heap[k]?
  same : ∀ k, k < w.heap.size → own' k = own k
section
variable {a b c w w' : World} {o o1 o2 own own' : Nat → Nat}
theorem Keeps.refl (w : World) (own : Nat → Nat) : Keeps w w own own := ⟨rfl, rfl, rfl, Nat.le_refl _, fun _ _ _ => rfl, fun _ _ => rfl⟩
theorem Keeps.trans (h : Keeps a b o o1) (k : Keeps b c o1 o2) : Keeps a c o o2 :=
  ⟨k.os.trans h.os, k.tape.trans h.tape, k.output.trans h.output, Nat.le_trans h.size k.size,
    fun i hi hn => (k.block i (Nat.lt_of_lt_of_le hi h.size) ((h.same i hi).trans hn)).trans (h.block i hi hn),
    fun i hi => (k.same i (Nat.lt_of_lt_of_le hi h.size)).trans (h.same i hi)⟩
theorem Keeps.blk {g : Nat} {t : TypeId} {cs : Array Value} (h : Keeps w w' own own') (hb : Blk w g t cs) (hg : own g = 0) : Blk w' g t cs := (h.block g hb.lt hg).trans hb
theorem Keeps.of_only {S : List Nat} (h : Only w w' S) (hS : ∀ x ∈ S, own x ≠ 0) : Keeps w w' own own :=
  ⟨h.os, h.tape, h.output, h.size, fun k hk hn => h.block k hk fun hm => hS k hm hn, fun _ _ => rfl⟩
theorem Keeps.only (h : Keeps w w' own own') (S : List Nat) (hS : ∀ k, k < w.heap.size → own k ≠ 0 → k ∈ S) : Only w w' S :=
  ⟨h.os, h.tape, h.output, h.size, fun k hk hn => h.block k hk (Classical.byContradiction fun hc => hn (hS k hk hc))⟩
/-- Whose a block is, behind a call that made new ones for part j. -/
def mark (w : World) (own : Nat → Nat) (j : Nat) : Nat → Nat := fun x => if x < w.heap.size then own x else j
theorem mark_old {j x : Nat} (h : x < w.heap.size) : mark w own j x = own x := if_pos h
theorem mark_new {j x : Nat} (h : w.heap.size ≤ x) : mark w own j x = j := if_neg (by omega)
theorem mark_fresh {j : Nat} {F F' : List Nat} (hF : ∀ x ∈ F, own x = j) (hl : ∀ x ∈ F, x < w.heap.size) (hf : Fresh w F F') : ∀ x ∈ F', mark w own j x = j := fun x hx => by
  rcases hf x hx with h | h
  · rw [mark_old (hl x h)]; exact hF x h
  · exact mark_new h
theorem mark_same {j : Nat} {F : List Nat} {n : Nat} (hF : ∀ x ∈ F, own x = n) (hl : ∀ x ∈ F, x < w.heap.size) : ∀ x ∈ F, mark w own j x = n := fun x hx => by rw [mark_old (hl x hx)]; exact hF x hx
theorem keeps_mark {j : Nat} (hj : j ≠ 0) {S : List Nat} (h : Only w w' S) (hS : ∀ x ∈ S, own x = j) : Keeps w w' own (mark w own j) :=
  ⟨h.os, h.tape, h.output, h.size, fun k hk hn => h.block k hk fun hm => by have := hS k hm; omega, fun _ hk => mark_old hk⟩
end
section
variable {w w' : World} {i : Ids} {st : PS} {own : Nat → Nat} {S : List Nat} {n : Nat}
theorem DiskR.lt {d : Nat} {s : DS} {F : List Nat} (h : DiskR w d s F) : ∀ x ∈ F, x < w.heap.size := by
  obtain ⟨sb, nb, rv, h, rfl⟩ := h
  exact fun x hx => (h.lt x hx).1
theorem BookR.lt {b : Nat} {s : BkS} {F : List Nat} (h : BookR w b s F) : ∀ x ∈ F, x < w.heap.size := by
  obtain ⟨nb, h, rfl⟩ := h
  intro x hx
  simp at hx
  rcases hx with rfl | rfl
  · exact h.box.lt
  · exact h.sums.lt
theorem PgC.lt {kb fb : Nat} {rv ov : Value} (h : PgC w i kb fb rv ov st) : ∀ x ∈ pfp i.p kb fb rv ov, x < w.heap.size := by
  intro x hx
  simp only [pfp, List.mem_cons, List.mem_append, Option.mem_toList] at hx
  rcases hx with rfl | rfl | rfl | hx | hx
  · exact h.box.lt
  · exact h.kept.lt
  · exact h.fresh.lt
  · obtain ⟨_, cur, hc⟩ := h.row.block x hx; exact hc.lt
  · obtain ⟨_, cur, hc⟩ := h.old.block x hx; exact hc.lt
theorem DiskR.only {d : Nat} {s : DS} {F : List Nat} (h : DiskR w d s F) (ho : Only w w' S) (hd : ∀ x ∈ F, x ∉ S) : DiskR w' d s F := by
  obtain ⟨sb, nb, rv, h, rfl⟩ := h
  exact ⟨sb, nb, rv, h.only ho hd, rfl⟩
theorem BookR.only {b : Nat} {s : BkS} {F : List Nat} (h : BookR w b s F) (ho : Only w w' S) (hd : ∀ x ∈ F, x ∉ S) : BookR w' b s F := by
  obtain ⟨nb, h, rfl⟩ := h
  exact ⟨nb, h.only ho hd, rfl⟩
theorem PgC.only {kb fb : Nat} {rv ov : Value} (h : PgC w i kb fb rv ov st) (ho : Only w w' S) (hd : ∀ x ∈ pfp i.p kb fb rv ov, x ∉ S) : PgC w' i kb fb rv ov st :=
  ⟨ho.blk h.box (hd _ (by simp [pfp])), h.kept.only ho (hd _ (by simp [pfp])), h.fresh.only ho (hd _ (by simp [pfp])), h.row.only ho (fun g hg => hd g (by simp [pfp, hg])), h.old.only ho (fun g hg => hd g (by simp [pfp, hg])), h.p1, h.p2, h.p3, h.ne⟩
theorem far_of (hS : ∀ x ∈ S, own x = n) {F : List Nat} {m : Nat} (hF : ∀ x ∈ F, own x = m) (hne : n ≠ m) : ∀ x ∈ F, x ∉ S := fun x hx hm => hne ((hS x hm).symm.trans (hF x hx))
theorem Salts.of_own (h : Salts w) (ho : Only w w' S) (h0 : 0 ∉ S) : Salts w' :=
  ⟨Nat.lt_of_lt_of_le h.1 ho.size, fun i hi => (ho.cell (p := ⟨0, i, none⟩) h.1 h0).trans (h.2 i hi)⟩
theorem zero_not (h0 : own 0 = 0) (hS : ∀ x ∈ S, own x = n) (hn : n ≠ 0) : 0 ∉ S := fun hm => hn ((hS 0 hm).symm.trans h0)
/-- A call that turned blocks of part n alone: what it leaves of the other parts. -/
theorem SysC.disk_step (h : SysC w i st own) {F F' : List Nat} {s' : DS} (hF : ∀ x ∈ F, own x = 1) (hl : ∀ x ∈ F, x < w.heap.size) (hd : DiskR w' i.d s' F') (ho : Only w w' F) (hf : Fresh w F F') :
    SysC w' i { st with d := s' } (mark w own 1) ∧ Keeps w w' own (mark w own 1) := by
  refine ⟨⟨⟨F', hd, mark_fresh hF hl hf⟩, ⟨⟨ho.blk h.dev.1.1 (fun hm => by have := hF _ hm; have := h.dev.2; omega), h.dev.1.2⟩, by rw [mark_old h.dev.1.1.lt]; exact h.dev.2⟩, ?_, ?_, ?_, h.salts.of_own ho (zero_not h.zero hF (by decide)), by rw [mark_old h.salts.1]; exact h.zero⟩, keeps_mark (by decide) ho hF⟩
  · obtain ⟨G, hG, hO⟩ := h.book
    exact ⟨G, hG.only ho (far_of hF hO (by decide)), mark_same hO hG.lt⟩
  · obtain ⟨sb, hs, h1, h2, h3, h4⟩ := h.space
    exact ⟨sb, hs.only ho (fun hm => by have := hF _ hm; omega) (fun hm => by have := hF _ hm; omega), by rw [mark_old hs.head.lt]; exact h1, by rw [mark_old hs.row.lt]; exact h2, h3, h4⟩
  · obtain ⟨kb, fb, rv, ov, hp, hO⟩ := h.pg
    have hp' := hp.only ho (far_of hF hO (by decide))
    exact ⟨kb, fb, rv, ov, ⟨hp'.box, hp'.kept, hp'.fresh, hp'.row, hp'.old, hp'.p1, hp'.p2, hp'.p3, hp'.ne⟩, mark_same hO hp.lt⟩
theorem SysC.book_step (h : SysC w i st own) {F F' : List Nat} {s' : BkS} (hF : ∀ x ∈ F, own x = 3) (hl : ∀ x ∈ F, x < w.heap.size) (hd : BookR w' i.b s' F') (ho : Only w w' F) (hf : Fresh w F F') :
    SysC w' i { st with b := s' } (mark w own 3) ∧ Keeps w w' own (mark w own 3) := by
  refine ⟨⟨?_, ⟨⟨ho.blk h.dev.1.1 (fun hm => by have := hF _ hm; have := h.dev.2; omega), h.dev.1.2⟩, by rw [mark_old h.dev.1.1.lt]; exact h.dev.2⟩, ⟨F', hd, mark_fresh hF hl hf⟩, ?_, ?_, h.salts.of_own ho (zero_not h.zero hF (by decide)), by rw [mark_old h.salts.1]; exact h.zero⟩, keeps_mark (by decide) ho hF⟩
  · obtain ⟨G, hG, hO⟩ := h.disk
    exact ⟨G, hG.only ho (far_of hF hO (by decide)), mark_same hO hG.lt⟩
  · obtain ⟨sb, hs, h1, h2, h3, h4⟩ := h.space
    exact ⟨sb, hs.only ho (fun hm => by have := hF _ hm; omega) (fun hm => by have := hF _ hm; omega), by rw [mark_old hs.head.lt]; exact h1, by rw [mark_old hs.row.lt]; exact h2, h3, h4⟩
  · obtain ⟨kb, fb, rv, ov, hp, hO⟩ := h.pg
    have hp' := hp.only ho (far_of hF hO (by decide))
    exact ⟨kb, fb, rv, ov, ⟨hp'.box, hp'.kept, hp'.fresh, hp'.row, hp'.old, hp'.p1, hp'.p2, hp'.p3, hp'.ne⟩, mark_same hO hp.lt⟩
theorem SysC.dev_step (h : SysC w i st own) {s' : VS} (hd : DevC w' i.v i.d s') (ho : Only w w' [i.v]) :
    SysC w' i { st with v := s' } (mark w own 2) ∧ Keeps w w' own (mark w own 2) := by
  have hF : ∀ x ∈ [i.v], own x = 2 := fun x hx => by rw [List.mem_singleton] at hx; rw [hx]; exact h.dev.2
  refine ⟨⟨?_, ⟨hd, by rw [mark_old h.dev.1.1.lt]; exact h.dev.2⟩, ?_, ?_, ?_, h.salts.of_own ho (zero_not h.zero hF (by decide)), by rw [mark_old h.salts.1]; exact h.zero⟩, keeps_mark (by decide) ho hF⟩
  · obtain ⟨G, hG, hO⟩ := h.disk
    exact ⟨G, hG.only ho (far_of hF hO (by decide)), mark_same hO hG.lt⟩
  · obtain ⟨G, hG, hO⟩ := h.book
    exact ⟨G, hG.only ho (far_of hF hO (by decide)), mark_same hO hG.lt⟩
  · obtain ⟨sb, hs, h1, h2, h3, h4⟩ := h.space
    exact ⟨sb, hs.only ho (fun hm => by have := hF _ hm; omega) (fun hm => by have := hF _ hm; omega), by rw [mark_old hs.head.lt]; exact h1, by rw [mark_old hs.row.lt]; exact h2, h3, h4⟩
  · obtain ⟨kb, fb, rv, ov, hp, hO⟩ := h.pg
    have hp' := hp.only ho (far_of hF hO (by decide))
    exact ⟨kb, fb, rv, ov, ⟨hp'.box, hp'.kept, hp'.fresh, hp'.row, hp'.old, hp'.p1, hp'.p2, hp'.p3, hp'.ne⟩, mark_same hO hp.lt⟩
theorem SysC.space_step (h : SysC w i st own) {sb : Nat} {s' : SpS} (hs : Sp w i.s sb st.s.taken st.s.first st.s.many) (h1 : own i.s = 4) (h2 : own sb = 4) (p1 : 0 < i.s) (p2 : 0 < sb) (hd : Sp w' i.s sb s'.taken s'.first s'.many) (ho : Only w w' [i.s, sb]) :
    SysC w' i { st with s := s' } (mark w own 4) ∧ Keeps w w' own (mark w own 4) := by
  have hF : ∀ x ∈ [i.s, sb], own x = 4 := fun x hx => by
    simp at hx
    rcases hx with rfl | rfl
    · exact h1
    · exact h2
  refine ⟨⟨?_, ⟨⟨ho.blk h.dev.1.1 (fun hm => by have := hF _ hm; have := h.dev.2; omega), h.dev.1.2⟩, by rw [mark_old h.dev.1.1.lt]; exact h.dev.2⟩, ?_, ⟨sb, hd, by rw [mark_old hs.head.lt]; exact h1, by rw [mark_old hs.row.lt]; exact h2, p1, p2⟩, ?_, h.salts.of_own ho (zero_not h.zero hF (by decide)), by rw [mark_old h.salts.1]; exact h.zero⟩, keeps_mark (by decide) ho hF⟩
  · obtain ⟨G, hG, hO⟩ := h.disk
    exact ⟨G, hG.only ho (far_of hF hO (by decide)), mark_same hO hG.lt⟩
  · obtain ⟨G, hG, hO⟩ := h.book
    exact ⟨G, hG.only ho (far_of hF hO (by decide)), mark_same hO hG.lt⟩
  · obtain ⟨kb, fb, rv, ov, hp, hO⟩ := h.pg
    have hp' := hp.only ho (far_of hF hO (by decide))
    exact ⟨kb, fb, rv, ov, ⟨hp'.box, hp'.kept, hp'.fresh, hp'.row, hp'.old, hp'.p1, hp'.p2, hp'.p3, hp'.ne⟩, mark_same hO hp.lt⟩
/-- A call that turned the pager's own blocks alone. -/
theorem SysC.pg_step (h : SysC w i st own) {st' : PS} {F : List Nat} {kb fb : Nat} {rv ov : Value} (e1 : st'.d = st.d) (e2 : st'.v = st.v) (e3 : st'.b = st.b) (e4 : st'.s = st.s) (hF : ∀ x ∈ F, own x = 5) (hl : ∀ x ∈ F, x < w.heap.size) (hd : PgC w' i kb fb rv ov st') (ho : Only w w' F) (hf : Fresh w F (pfp i.p kb fb rv ov)) :
    SysC w' i st' (mark w own 5) ∧ Keeps w w' own (mark w own 5) := by
  refine ⟨⟨?_, ⟨by rw [e2]; exact ⟨ho.blk h.dev.1.1 (fun hm => by have := hF _ hm; have := h.dev.2; omega), h.dev.1.2⟩, by rw [mark_old h.dev.1.1.lt]; exact h.dev.2⟩, ?_, ?_, ⟨kb, fb, rv, ov, hd, mark_fresh hF hl hf⟩, h.salts.of_own ho (zero_not h.zero hF (by decide)), by rw [mark_old h.salts.1]; exact h.zero⟩, keeps_mark (by decide) ho hF⟩
  · obtain ⟨G, hG, hO⟩ := h.disk
    exact ⟨G, by rw [e1]; exact hG.only ho (far_of hF hO (by decide)), mark_same hO hG.lt⟩
  · obtain ⟨G, hG, hO⟩ := h.book
    exact ⟨G, by rw [e3]; exact hG.only ho (far_of hF hO (by decide)), mark_same hO hG.lt⟩
  · obtain ⟨sb, hs, h1, h2, h3, h4⟩ := h.space
    exact ⟨sb, by rw [e4]; exact hs.only ho (fun hm => by have := hF _ hm; omega) (fun hm => by have := hF _ hm; omega), by rw [mark_old hs.head.lt]; exact h1, by rw [mark_old hs.row.lt]; exact h2, h3, h4⟩
/-- A call that turned nothing of theirs. -/
theorem SysC.none_step (h : SysC w i st own) (ho : Only w w' []) : SysC w' i st (mark w own 0) ∧ Keeps w w' own (mark w own 0) := by
  refine ⟨⟨?_, ⟨⟨ho.blk h.dev.1.1 (by simp), h.dev.1.2⟩, by rw [mark_old h.dev.1.1.lt]; exact h.dev.2⟩, ?_, ?_, ?_, h.salts.of_own ho (by simp), by rw [mark_old h.salts.1]; exact h.zero⟩, ⟨ho.os, ho.tape, ho.output, ho.size, fun k hk _ => ho.block k hk (by simp), fun _ hk => mark_old hk⟩⟩
  · obtain ⟨G, hG, hO⟩ := h.disk
    exact ⟨G, hG.only ho (fun _ _ hm => by cases hm), mark_same hO hG.lt⟩
  · obtain ⟨G, hG, hO⟩ := h.book
    exact ⟨G, hG.only ho (fun _ _ hm => by cases hm), mark_same hO hG.lt⟩
  · obtain ⟨sb, hs, h1, h2, h3, h4⟩ := h.space
    exact ⟨sb, hs.only ho (by simp) (by simp), by rw [mark_old hs.head.lt]; exact h1, by rw [mark_old hs.row.lt]; exact h2, h3, h4⟩
  · obtain ⟨kb, fb, rv, ov, hp, hO⟩ := h.pg
    exact ⟨kb, fb, rv, ov, hp.only ho (fun _ _ hm => by cases hm), mark_same hO hp.lt⟩
end

end Go.Proofs.YtimpjlnbbdfehaaGreatDoor
namespace Go.Proofs.YtimpjlnbbdfehaaGreatDoor
open Go.RowKit Go.Shelf Go.Lib Go.Sort
set_option linter.unusedVariables false
attribute [local go_sem ↓] shr_32_1 shl_32_1 shr_32_2 shl_32_2 shr_32_3 shl_32_3 shr_32_4 shl_32_4 shr_32_5 shl_32_5 shr_32_6 shl_32_6 shr_32_7 shl_32_7 shr_32_8 shl_32_8 shr_32_9 shl_32_9 shr_32_10 shl_32_10 shr_32_11 shl_32_11 shr_32_12 shl_32_12 shr_32_13 shl_32_13 shr_32_14 shl_32_14 shr_32_15 shl_32_15 shr_32_16 shl_32_16 shr_32_17 shl_32_17 shr_32_18 shl_32_18 shr_32_19 shl_32_19 shr_32_20 shl_32_20 shr_32_21 shl_32_21 shr_32_22 shl_32_22 shr_32_23 shl_32_23 shr_32_24 shl_32_24 shr_32_25 shl_32_25 shr_32_26 shl_32_26 shr_32_27 shl_32_27 shr_32_28 shl_32_28 shr_32_29 shl_32_29 shr_32_30 shl_32_30 shr_32_31 shl_32_31 shr_64_3 shl_64_3 shr_64_7 shl_64_7 shr_64_8 shl_64_8 shr_64_16 shl_64_16 shr_64_24 shl_64_24 shr_64_32 shl_64_32 shr_64_40 shl_64_40 shr_64_48 shl_64_48 shr_64_56 shl_64_56
attribute [local go_sem] add_u32 add_u64 and_u8 or_u8 xor_u8 and_u32 or_u32 xor_u32 and_u64 or_u64 xor_u64 conv_32_8 conv_64_8 conv_64_32 conv_8_32 conv_8_64 conv_32_64


def PS.head (st : PS) : PS := { st with at_ := st.v.ctr, index := (if st.v.ctr = st.at_ then st.index else 0) + 1 }
def PS.hd (st : PS) : Hd := ⟨st.epoch, st.v.ctr, st.head.index⟩
/-- What a call of a pager leaves: its answer, its state. -/
def PT (i : Ids) (w : World) (own : Nat → Nat) (st' : PS) (v : Value) (e : Ending) (w' : World) : Prop := e = .returned v ∧ ∃ own', SysC w' i st' own' ∧ Keeps w w' own own'
theorem n64_inj {a b : UInt64} (h : n64 a = n64 b) : a = b := by unfold n64 at h; exact UInt64.toNat_inj.1 (by omega)
theorem n64_ne {a b : UInt64} (h : a ≠ b) : (n64 a != n64 b) = true := by simp; exact fun e => h (n64_inj e)
theorem n64_same (a : UInt64) : (n64 a != n64 a) = false := by simp
def boxV (i : Ids) (kb fb : Nat) (rv ov : Value) (st : PS) : Array Value := #[ptr i.d, ptr i.v, ptr i.b, ptr i.s, .int .i64 (st.most : Int), .map (some kb), rv, .int .u32 (n32 st.epoch), .int .u64 (n64 st.at_), .int .u32 (n32 st.index), .map (some fb), ov, .int .i64 (st.reads : Int), .int .i64 (st.hits : Int)]
/-- The box alone is turned. -/
theorem PgC.rebox {w w' : World} {i : Ids} {kb fb : Nat} {rv ov : Value} {st : PS} (h : PgC w i kb fb rv ov st) (st' : PS) (e1 : st'.kept = st.kept) (e2 : st'.row = st.row) (e3 : st'.fresh = st.fresh) (e4 : st'.old = st.old)
    (hb : Blk w' i.p 126 (boxV i kb fb rv ov st')) (ho : Only w w' [i.p]) : PgC w' i kb fb rv ov st' :=
  ⟨hb, by rw [e1]; exact h.kept.only ho (by simpa using h.kept.ne_blk h.box), by rw [e3]; exact h.fresh.only ho (by simpa using h.fresh.ne_blk h.box),
    by rw [e2]; exact h.row.only ho (fun g hg e => by rw [List.mem_singleton] at e; subst e; exact h.row.ne_blk h.box (by decide) hg),
    by rw [e4]; exact h.old.only ho (fun g hg e => by rw [List.mem_singleton] at e; subst e; exact h.old.ne_blk h.box (by decide) hg), h.p1, h.p2, h.p3, h.ne⟩
theorem pfp_p {p kb fb : Nat} {rv ov : Value} : ∀ x ∈ [p], x ∈ pfp p kb fb rv ov := fun x hx => by rw [List.mem_singleton] at hx; simp [pfp, hx]
theorem SysC.box_step {w w' : World} {i : Ids} {st : PS} {own : Nat → Nat} {kb fb : Nat} {rv ov : Value} (h : SysC w i st own) (hp : PgC w i kb fb rv ov st) (hO : ∀ x ∈ pfp i.p kb fb rv ov, own x = 5) (st' : PS)
    (d1 : st'.d = st.d) (d2 : st'.v = st.v) (d3 : st'.b = st.b) (d4 : st'.s = st.s) (e1 : st'.kept = st.kept) (e2 : st'.row = st.row) (e3 : st'.fresh = st.fresh) (e4 : st'.old = st.old)
    (hb : Blk w' i.p 126 (boxV i kb fb rv ov st')) (ho : Only w w' [i.p]) : ∃ own', SysC w' i st' own' ∧ Keeps w w' own own' :=
  ⟨_, h.pg_step d1 d2 d3 d4 hO hp.lt (hp.rebox st' e1 e2 e3 e4 hb ho) (ho.mono pfp_p) (fun x hx => .inl hx)⟩
theorem only_newRow {a w : World} {S : List Nat} (h : Only a w S) {g : Nat} (hg : a.heap.size ≤ g) (cs : Array Value) : Only a (w.setRow g cs) S :=
  ⟨h.os, h.tape, h.output, by simpa [World.setRow] using h.size, fun k hk hn => (setRow_other w g k cs (by omega)).trans (h.block k hk hn)⟩
theorem add1_u32 (x : UInt32) : IntKind.u32.wrap (n32 x + 1) = n32 (x + 1) := add_u32 x 1
def hdV (e : UInt32) (c : UInt64) (x : UInt32) : Array Value := #[.int .u32 (n32 e), .int .u64 (n64 c), .int .u32 (n32 x)]
set_option maxHeartbeats 4000000 in
set_option maxRecDepth 100000 in
theorem phead_ok {w : World} {i : Ids} {st : PS} {own : Nat → Nat} (h : SysC w i st own) :
    Calls Tryz.prog 65 #[.pointer (some ⟨i.p, 0, none⟩)] w (PT i w own st.head st.hd.v) := by
  obtain ⟨kb, fb, rv, ov, hp, hO⟩ := h.pg
  have hA : Blk (w.alloc (.cells #[.int .u32 0, .int .u64 0, .int .u32 0] 36)) w.heap.size 36 #[.int .u32 0, .int .u64 0, .int .u32 0] := Blk.new w 36 _
  have hob : Only w (w.alloc (.cells #[.int .u32 0, .int .u64 0, .int .u32 0] 36)) [] := (Only.refl w []).alloc _
  have HD : Hid (Calls Tryz.prog 27 #[.pointer (some ⟨i.v, 0, none⟩)] (w.alloc (.cells #[.int .u32 0, .int .u64 0, .int .u32 0] 36)) fun e w' => e = .returned (.int .u64 (n64 st.v.ctr)) ∧ (w.alloc (.cells #[.int .u32 0, .int .u64 0, .int .u32 0] 36)) = w') :=
    counter_ok (s := st.v) (d := i.d) ⟨hob.blk h.dev.1.1 (by simp), h.dev.1.2⟩
  have hbx : Blk (w.alloc (.cells #[.int .u32 0, .int .u64 0, .int .u32 0] 36)) i.p 126 (boxV i kb fb rv ov st) := hp.box.alloc _
  have hlt : i.p < w.heap.size := hp.box.lt
  have HFIN : Hid (∀ w', Blk w' i.p 126 (boxV i kb fb rv ov st.head) → Only w w' [i.p] → ∃ own', SysC w' i st.head own' ∧ Keeps w w' own own') := fun w' hb ho =>
    h.box_step hp hO st.head rfl rfl rfl rfl rfl rfl rfl rfl hb ho
  have HHD : Hid (st.hd.v = .agg (hdV st.epoch st.v.ctr st.head.index)) := rfl
  have HBH : Hid (boxV i kb fb rv ov st.head = #[ptr i.d, ptr i.v, ptr i.b, ptr i.s, .int .i64 (st.most : Int), .map (some kb), rv, .int .u32 (n32 st.epoch), .int .u64 (n64 st.v.ctr), .int .u32 (n32 st.head.index), .map (some fb), ov, .int .i64 (st.reads : Int), .int .i64 (st.hits : Int)]) := rfl
  have HIX : Hid (st.head.index = (if st.v.ctr = st.at_ then st.index else 0) + 1) := rfl
  generalize st.head.index = ix at *
  have HBX := Lib.hid hbx
  have HA := Lib.hid hA
  have HLT := Lib.hid hlt
  clear h hp hA hob hO hlt hbx
  rw [HHD.out]
  generalize boxV i kb fb rv ov st.head = bh at *
  unfold boxV ptr at HBX
  unfold ptr at HBH
  obtain ⟨ep, hep⟩ : ∃ ep, ep = st.epoch := ⟨_, rfl⟩
  by_cases hat : st.v.ctr = st.at_
  · rw [if_pos hat] at HIX
    obtain rfl : ix = st.index + 1 := HIX.out
    rw [hat] at HD HBH ⊢
    have c1 := HBX.out.cell 1
    have c8 := HBX.out.cell 8
    have c9 := HBX.out.cell 9
    have c7 := HBX.out.cell 7
    have f9 := HBX.out.frozen 9
    have hsm := n64_same st.at_
    have hw := add1_u32 st.index
    clear hep hat
    go_enter Tryz.func65, Tryz.ntmps65
    go_wp2_with ((with_reducible refine HD.out.mono ?_); rintro e w' ⟨rfl, rfl⟩)
    have HB2 : Hid (Blk ((w.alloc (.cells #[.int .u32 0, .int .u64 0, .int .u32 0] 36)).setCell ⟨i.p, 9, none⟩ (.int .u32 (n32 (st.index + 1)))) i.p 126 bh) := by
      show Blk _ _ _ _
      rw [HBH.out]
      exact HBX.out.set_ 9 _
    have HO2 : Hid (Only w ((w.alloc (.cells #[.int .u32 0, .int .u64 0, .int .u32 0] 36)).setCell ⟨i.p, 9, none⟩ (.int .u32 (n32 (st.index + 1)))) [i.p]) := ((Only.refl w _).alloc _).setCell (by simp) _
    have HA2 : Hid (Blk ((w.alloc (.cells #[.int .u32 0, .int .u64 0, .int .u32 0] 36)).setCell ⟨i.p, 9, none⟩ (.int .u32 (n32 (st.index + 1)))) w.heap.size 36 #[.int .u32 0, .int .u64 0, .int .u32 0]) := HA.out.far (by have := HLT.out; show w.heap.size ≠ i.p; omega) _
    clear c1 c8 c9 c7 f9 hsm hw HA HBX HD
    generalize (w.alloc (.cells #[.int .u32 0, .int .u64 0, .int .u32 0] 36)).setCell ⟨i.p, 9, none⟩ (.int .u32 (n32 (st.index + 1))) = w2 at *
    generalize st.index + 1 = ix at *
    rw [HBH.out] at HB2
    refine wp_region_plan (fun w' => w'.cell? ⟨i.p, 7, none⟩ = some (.int .u32 (n32 st.epoch)) ∧ w'.cell? ⟨i.p, 8, none⟩ = some (.int .u64 (n64 st.at_)) ∧ w'.cell? ⟨i.p, 9, none⟩ = some (.int .u32 (n32 ix))) 13 [(true, 0), (true, 1), (true, 2), (true, 3), (true, 4), (true, 5), (true, 6), (true, 7), (true, 8), (true, 9), (true, 10), (true, 11), (true, 12)] (by kernel_rfl) (by kernel_rfl) ⟨HB2.out.drew.cell 7, HB2.out.drew.cell 8, HB2.out.drew.cell 9⟩ ?_
    simp only [List.map_cons, List.map_nil, List.getD_cons_zero, List.getD_cons_succ, List.drop_succ_cons, List.drop_zero]
    (refine plan_take (v := ?_) rfl ?_ ?_; rotate_left; (intro wS hSw; (try dsimp only at hSw); go_simp; try with_reducible rfl); simp only [Act.put, List.setIfInBounds_toArray, List.set_cons_zero, List.set_cons_succ])
    (refine plan_take (v := ?_) rfl ?_ ?_; rotate_left; (intro wS hSw; (try dsimp only at hSw); go_simp; try with_reducible rfl); simp only [Act.put, List.setIfInBounds_toArray, List.set_cons_zero, List.set_cons_succ])
    (refine plan_take (v := ?_) rfl ?_ ?_; rotate_left; (intro wS hSw; (try dsimp only at hSw); go_simp; try with_reducible rfl); simp only [Act.put, List.setIfInBounds_toArray, List.set_cons_zero, List.set_cons_succ])
    (refine plan_take (v := ?_) rfl ?_ ?_; rotate_left; (intro wS hSw; (try dsimp only at hSw); go_simp; try with_reducible rfl); simp only [Act.put, List.setIfInBounds_toArray, List.set_cons_zero, List.set_cons_succ])
    (refine plan_take (v := ?_) rfl ?_ ?_; rotate_left; (intro wS hSw; (try dsimp only at hSw); go_simp; try with_reducible rfl); simp only [Act.put, List.setIfInBounds_toArray, List.set_cons_zero, List.set_cons_succ])
    (refine plan_take (v := ?_) rfl ?_ ?_; rotate_left; (intro wS hSw; (try dsimp only at hSw); go_simp; try with_reducible rfl); simp only [Act.put, List.setIfInBounds_toArray, List.set_cons_zero, List.set_cons_succ])
    (refine plan_take (v := ?_) rfl ?_ ?_; rotate_left; (intro wS hSw; (try dsimp only at hSw); go_simp; try with_reducible rfl); simp only [Act.put, List.setIfInBounds_toArray, List.set_cons_zero, List.set_cons_succ])
    (refine plan_take (v := ?_) rfl ?_ ?_; rotate_left; (intro wS hSw; (try dsimp only at hSw); go_simp; try with_reducible rfl); simp only [Act.put, List.setIfInBounds_toArray, List.set_cons_zero, List.set_cons_succ])
    (refine plan_take (v := ?_) rfl ?_ ?_; rotate_left; (intro wS hSw; (try dsimp only at hSw); go_simp; try with_reducible rfl); simp only [Act.put, List.setIfInBounds_toArray, List.set_cons_zero, List.set_cons_succ])
    (refine plan_take (v := ?_) rfl ?_ ?_; rotate_left; (intro wS hSw; (try dsimp only at hSw); go_simp; try with_reducible rfl); simp only [Act.put, List.setIfInBounds_toArray, List.set_cons_zero, List.set_cons_succ])
    (refine plan_take (v := ?_) rfl ?_ ?_; rotate_left; (intro wS hSw; (try dsimp only at hSw); go_simp; try with_reducible rfl); simp only [Act.put, List.setIfInBounds_toArray, List.set_cons_zero, List.set_cons_succ])
    (refine plan_take (v := ?_) rfl ?_ ?_; rotate_left; (intro wS hSw; (try dsimp only at hSw); go_simp; try with_reducible rfl); simp only [Act.put, List.setIfInBounds_toArray, List.set_cons_zero, List.set_cons_succ])
    (refine plan_take (v := ?_) rfl ?_ ?_; rotate_left; (intro wS hSw; (try dsimp only at hSw); go_simp; try with_reducible rfl); simp only [Act.put, List.setIfInBounds_toArray, List.set_cons_zero, List.set_cons_succ])
    refine plan_nil ?_
    go_wp2_with (refine wpList_store_row rfl 36 (.tmp 2) (.tmp 41) (by rfl) w.heap.size (hdV st.epoch st.at_ ix) (by rfl) (by rfl) 36 _ HA2.out.drew info36 (by rfl) (by simp [hdV, Value.oneCell']) ?_)
    refine NoPanic.normal ?_
    go_wp2_with fail
    refine bodyPost_ret (results_cell_row (fn := Tryz.f65) rfl _ _ w.heap.size 36 (hdV st.epoch st.at_ ix) (0, 0) _ (by rfl) (HA2.out.drew.row _) Tryz.underlying36 rfl info36) rfl ?_
    refine ⟨rfl, HFIN.out _ ?_ ?_⟩
    · rw [HBH.out]; exact HB2.out.drew.farRow (by have := HLT.out; omega) _
    · exact only_newRow HO2.out.drew (Nat.le_refl _) _

  · rw [if_neg hat] at HIX
    obtain rfl : ix = 1 := HIX.out
    have c1 := HBX.out.cell 1
    have c8 := HBX.out.cell 8
    have c9 := HBX.out.cell 9
    have c7 := HBX.out.cell 7
    have f8 := HBX.out.frozen 8
    have f9 := HBX.out.frozen 9
    have hsm := n64_ne hat
    clear hep hat
    go_enter Tryz.func65, Tryz.ntmps65
    go_wp2_with ((with_reducible refine HD.out.mono ?_); rintro e w' ⟨rfl, rfl⟩)
    have HB2 : Hid (Blk ((((w.alloc (.cells #[.int .u32 0, .int .u64 0, .int .u32 0] 36)).setCell ⟨i.p, 8, none⟩ (.int .u64 (n64 st.v.ctr))).setCell ⟨i.p, 9, none⟩ (.int .u32 0)).setCell ⟨i.p, 9, none⟩ (.int .u32 1)) i.p 126 bh) := by
      show Blk _ _ _ _
      rw [HBH.out]
      exact ((HBX.out.set_ 8 _).set_ 9 _).set_ 9 _
    have HO2 : Hid (Only w ((((w.alloc (.cells #[.int .u32 0, .int .u64 0, .int .u32 0] 36)).setCell ⟨i.p, 8, none⟩ (.int .u64 (n64 st.v.ctr))).setCell ⟨i.p, 9, none⟩ (.int .u32 0)).setCell ⟨i.p, 9, none⟩ (.int .u32 1)) [i.p]) := ((((Only.refl w _).alloc _).setCell (by simp) _).setCell (by simp) _).setCell (by simp) _
    have HA2 : Hid (Blk ((((w.alloc (.cells #[.int .u32 0, .int .u64 0, .int .u32 0] 36)).setCell ⟨i.p, 8, none⟩ (.int .u64 (n64 st.v.ctr))).setCell ⟨i.p, 9, none⟩ (.int .u32 0)).setCell ⟨i.p, 9, none⟩ (.int .u32 1)) w.heap.size 36 #[.int .u32 0, .int .u64 0, .int .u32 0]) := ((HA.out.far (by have := HLT.out; show w.heap.size ≠ i.p; omega) _).far (by have := HLT.out; show w.heap.size ≠ i.p; omega) _).far (by have := HLT.out; show w.heap.size ≠ i.p; omega) _
    clear c1 c8 c9 c7 f8 f9 hsm HA HBX HD
    generalize (((w.alloc (.cells #[.int .u32 0, .int .u64 0, .int .u32 0] 36)).setCell ⟨i.p, 8, none⟩ (.int .u64 (n64 st.v.ctr))).setCell ⟨i.p, 9, none⟩ (.int .u32 0)).setCell ⟨i.p, 9, none⟩ (.int .u32 1) = w2 at *
    generalize (1 : UInt32) = ix at *
    rw [HBH.out] at HB2
    refine wp_region_plan (fun w' => w'.cell? ⟨i.p, 7, none⟩ = some (.int .u32 (n32 st.epoch)) ∧ w'.cell? ⟨i.p, 8, none⟩ = some (.int .u64 (n64 st.v.ctr)) ∧ w'.cell? ⟨i.p, 9, none⟩ = some (.int .u32 (n32 ix))) 13 [(true, 0), (true, 1), (true, 2), (true, 3), (true, 4), (true, 5), (true, 6), (true, 7), (true, 8), (true, 9), (true, 10), (true, 11), (true, 12)] (by kernel_rfl) (by kernel_rfl) ⟨HB2.out.drew.cell 7, HB2.out.drew.cell 8, HB2.out.drew.cell 9⟩ ?_
    simp only [List.map_cons, List.map_nil, List.getD_cons_zero, List.getD_cons_succ, List.drop_succ_cons, List.drop_zero]
    (refine plan_take (v := ?_) rfl ?_ ?_; rotate_left; (intro wS hSw; (try dsimp only at hSw); go_simp; try with_reducible rfl); simp only [Act.put, List.setIfInBounds_toArray, List.set_cons_zero, List.set_cons_succ])
    (refine plan_take (v := ?_) rfl ?_ ?_; rotate_left; (intro wS hSw; (try dsimp only at hSw); go_simp; try with_reducible rfl); simp only [Act.put, List.setIfInBounds_toArray, List.set_cons_zero, List.set_cons_succ])
    (refine plan_take (v := ?_) rfl ?_ ?_; rotate_left; (intro wS hSw; (try dsimp only at hSw); go_simp; try with_reducible rfl); simp only [Act.put, List.setIfInBounds_toArray, List.set_cons_zero, List.set_cons_succ])
    (refine plan_take (v := ?_) rfl ?_ ?_; rotate_left; (intro wS hSw; (try dsimp only at hSw); go_simp; try with_reducible rfl); simp only [Act.put, List.setIfInBounds_toArray, List.set_cons_zero, List.set_cons_succ])
    (refine plan_take (v := ?_) rfl ?_ ?_; rotate_left; (intro wS hSw; (try dsimp only at hSw); go_simp; try with_reducible rfl); simp only [Act.put, List.setIfInBounds_toArray, List.set_cons_zero, List.set_cons_succ])
    (refine plan_take (v := ?_) rfl ?_ ?_; rotate_left; (intro wS hSw; (try dsimp only at hSw); go_simp; try with_reducible rfl); simp only [Act.put, List.setIfInBounds_toArray, List.set_cons_zero, List.set_cons_succ])
    (refine plan_take (v := ?_) rfl ?_ ?_; rotate_left; (intro wS hSw; (try dsimp only at hSw); go_simp; try with_reducible rfl); simp only [Act.put, List.setIfInBounds_toArray, List.set_cons_zero, List.set_cons_succ])
    (refine plan_take (v := ?_) rfl ?_ ?_; rotate_left; (intro wS hSw; (try dsimp only at hSw); go_simp; try with_reducible rfl); simp only [Act.put, List.setIfInBounds_toArray, List.set_cons_zero, List.set_cons_succ])
    (refine plan_take (v := ?_) rfl ?_ ?_; rotate_left; (intro wS hSw; (try dsimp only at hSw); go_simp; try with_reducible rfl); simp only [Act.put, List.setIfInBounds_toArray, List.set_cons_zero, List.set_cons_succ])
    (refine plan_take (v := ?_) rfl ?_ ?_; rotate_left; (intro wS hSw; (try dsimp only at hSw); go_simp; try with_reducible rfl); simp only [Act.put, List.setIfInBounds_toArray, List.set_cons_zero, List.set_cons_succ])
    (refine plan_take (v := ?_) rfl ?_ ?_; rotate_left; (intro wS hSw; (try dsimp only at hSw); go_simp; try with_reducible rfl); simp only [Act.put, List.setIfInBounds_toArray, List.set_cons_zero, List.set_cons_succ])
    (refine plan_take (v := ?_) rfl ?_ ?_; rotate_left; (intro wS hSw; (try dsimp only at hSw); go_simp; try with_reducible rfl); simp only [Act.put, List.setIfInBounds_toArray, List.set_cons_zero, List.set_cons_succ])
    (refine plan_take (v := ?_) rfl ?_ ?_; rotate_left; (intro wS hSw; (try dsimp only at hSw); go_simp; try with_reducible rfl); simp only [Act.put, List.setIfInBounds_toArray, List.set_cons_zero, List.set_cons_succ])
    refine plan_nil ?_
    go_wp2_with (refine wpList_store_row rfl 36 (.tmp 2) (.tmp 41) (by rfl) w.heap.size (hdV st.epoch st.v.ctr ix) (by rfl) (by rfl) 36 _ HA2.out.drew info36 (by rfl) (by simp [hdV, Value.oneCell']) ?_)
    refine NoPanic.normal ?_
    go_wp2_with fail
    refine bodyPost_ret (results_cell_row (fn := Tryz.f65) rfl _ _ w.heap.size 36 (hdV st.epoch st.v.ctr ix) (0, 0) _ (by rfl) (HA2.out.drew.row _) Tryz.underlying36 rfl info36) rfl ?_
    refine ⟨rfl, HFIN.out _ ?_ ?_⟩
    · rw [HBH.out]; exact HB2.out.drew.farRow (by have := HLT.out; omega) _
    · exact only_newRow HO2.out.drew (Nat.le_refl _) _

end Go.Proofs.YtimpjlnbbdfehaaGreatDoor
namespace Go.Proofs.YtimpjlnbbdfehaaGreatDoor
open Go.RowKit Go.Shelf Go.Lib Go.Sort
set_option linter.unusedVariables false
attribute [local go_sem ↓] shr_32_1 shl_32_1 shr_32_2 shl_32_2 shr_32_3 shl_32_3 shr_32_4 shl_32_4 shr_32_5 shl_32_5 shr_32_6 shl_32_6 shr_32_7 shl_32_7 shr_32_8 shl_32_8 shr_32_9 shl_32_9 shr_32_10 shl_32_10 shr_32_11 shl_32_11 shr_32_12 shl_32_12 shr_32_13 shl_32_13 shr_32_14 shl_32_14 shr_32_15 shl_32_15 shr_32_16 shl_32_16 shr_32_17 shl_32_17 shr_32_18 shl_32_18 shr_32_19 shl_32_19 shr_32_20 shl_32_20 shr_32_21 shl_32_21 shr_32_22 shl_32_22 shr_32_23 shl_32_23 shr_32_24 shl_32_24 shr_32_25 shl_32_25 shr_32_26 shl_32_26 shr_32_27 shl_32_27 shr_32_28 shl_32_28 shr_32_29 shl_32_29 shr_32_30 shl_32_30 shr_32_31 shl_32_31 shr_64_3 shl_64_3 shr_64_7 shl_64_7 shr_64_8 shl_64_8 shr_64_16 shl_64_16 shr_64_24 shl_64_24 shr_64_32 shl_64_32 shr_64_40 shl_64_40 shr_64_48 shl_64_48 shr_64_56 shl_64_56
attribute [local go_sem] add_u32 add_u64 and_u8 or_u8 xor_u8 and_u32 or_u32 xor_u32 and_u64 or_u64 xor_u64 conv_32_8 conv_64_8 conv_64_32 conv_8_32 conv_8_64 conv_32_64

section
variable {w : World} {i : Ids} {st : PS} {own : Nat → Nat}
theorem SysC.c0 (h : SysC w i st own) : w.cell? ⟨i.p, 0, none⟩ = some (.pointer (some ⟨i.d, 0, none⟩)) := by obtain ⟨_, _, _, _, hp, _⟩ := h.pg; exact hp.box.cell 0
theorem SysC.c1 (h : SysC w i st own) : w.cell? ⟨i.p, 1, none⟩ = some (.pointer (some ⟨i.v, 0, none⟩)) := by obtain ⟨_, _, _, _, hp, _⟩ := h.pg; exact hp.box.cell 1
theorem SysC.c2 (h : SysC w i st own) : w.cell? ⟨i.p, 2, none⟩ = some (.pointer (some ⟨i.b, 0, none⟩)) := by obtain ⟨_, _, _, _, hp, _⟩ := h.pg; exact hp.box.cell 2
theorem SysC.c3 (h : SysC w i st own) : w.cell? ⟨i.p, 3, none⟩ = some (.pointer (some ⟨i.s, 0, none⟩)) := by obtain ⟨_, _, _, _, hp, _⟩ := h.pg; exact hp.box.cell 3
theorem pkey_ok (h : SysC w i st own) : Calls Tryz.prog 64 #[.pointer (some ⟨i.v, 0, none⟩)] w fun e w' => e = .returned (.string st.v.key) ∧ w = w' := key_ok h.dev.1
theorem pdwrite_ok (h : SysC w i st own) (ok : st.d.ok) (k : Nat) (hk : k < st.d.sure.length) (x : ByteArray) (hx : x.size = 512) :
    Calls Tryz.prog 66 #[.pointer (some ⟨i.d, 0, none⟩), .int .i64 (k : Int), .string x] w (PT i w own { st with d := st.d.write (k : Int) x } (.int .i64 0)) := by
  obtain ⟨F, hF, hO⟩ := h.disk
  exact (dwrite_ok hF ok k hk x hx).mono fun e w' ⟨he, F', h1, h2, h3⟩ => ⟨he, _, h.disk_step hO hF.lt h1 h2 h3⟩
theorem psum_ok (h : SysC w i st own) (x : ByteArray) (hx : x.size ≤ 1000000) :
    Calls Tryz.prog 67 #[.pointer (some ⟨i.b, 0, none⟩), .string x] w (PT i w own { st with b := st.b.sum x } (.string (sumB x))) := by
  obtain ⟨F, hF, hO⟩ := h.book
  exact (bsum_ok hF x hx h.salts).mono fun e w' ⟨he, F', h1, h2, h3⟩ => ⟨he, _, h.book_step hO hF.lt h1 h2 h3⟩
theorem pbput_ok (h : SysC w i st own) (m : ByteArray) (hd : Hd) (place : Int) (s : ByteArray) (hm : m.size ≤ 900000) (hs : s.size ≤ 462) :
    Calls Tryz.prog 63 #[.string m, hd.v, .int .i64 place, .string s] w (PT i w own st (.string (blockP m hd place s))) :=
  (bput_ok m hd place s hm hs w h.salts).mono fun e w' ⟨he, hb⟩ => ⟨he, _, h.none_step (Only.ofBelow hb)⟩
end
def PS.block (st : PS) (n : Int) (t : ByteArray) : ByteArray := blockP st.v.key st.hd n t
def PS.lay (st : PS) (n : Int) (t : ByteArray) : PS := { st.head with d := st.d.write n (st.block n t), b := st.b.sum (st.block n t) }
/-- What must be so of a pager's numbers. -/
structure PS.ok (st : PS) : Prop where
  d : st.d.ok
  key : st.v.key.size ≤ 900000
  reads : st.reads ≤ 1000000
set_option maxHeartbeats 2000000 in
set_option maxRecDepth 100000 in
theorem lay_ok {w : World} {i : Ids} {st : PS} {own : Nat → Nat} (h : SysC w i st own) (ok : st.ok) (k : Nat) (hk : k < st.d.sure.length) (t : ByteArray) (ht : t.size ≤ 462) :
    Calls Tryz.prog 17 #[.pointer (some ⟨i.p, 0, none⟩), .int .i64 (k : Int), .string t] w (PT i w own (st.lay (k : Int) t) (.tuple #[.string (sumB (st.block (k : Int) t)), .string (st.block (k : Int) t), .int .i64 0])) := by
  have HH := Lib.hid (phead_ok h)
  have HK := Lib.hid (pkey_ok h)
  have c1 := h.c1
  have hx : (st.block (k : Int) t).size = 512 := blockP_size _ _ _ _ ht
  have HB := Lib.hid (fun w1 own1 (h1 : SysC w1 i st.head own1) => pbput_ok h1 st.v.key st.hd (k : Int) t ok.key ht)
  have HW := Lib.hid (fun w1 own1 (h1 : SysC w1 i st.head own1) => pdwrite_ok h1 ok.d k hk (st.block (k : Int) t) hx)
  have HS := Lib.hid (fun w1 own1 (h1 : SysC w1 i { st.head with d := st.d.write (k : Int) (st.block (k : Int) t) } own1) => psum_ok h1 (st.block (k : Int) t) (by omega))
  have HR : Hid (st.lay (k : Int) t = { ({ st.head with d := st.d.write (k : Int) (st.block (k : Int) t) } : PS) with b := st.b.sum (st.block (k : Int) t) }) := rfl
  have hd1 : decide ((462 : Int) < (t.size : Int)) = false := by simp; omega
  rw [show blockP st.v.key st.hd (k : Int) t = st.block (k : Int) t from rfl] at HB
  generalize st.block (k : Int) t = x at *
  unfold Hd.v at HH HB
  generalize st.hd.cells = hc at *
  clear h ok hk ht hx
  go_enter Tryz.func17, Tryz.ntmps17
  go_wp2_with ((with_reducible refine HK.out.mono ?_); rintro e w' ⟨rfl, rfl⟩)
  refine HH.out.mono ?_
  rintro e w1 ⟨rfl, own1, h1, k1⟩
  have K1 := Lib.hid k1
  have H1 := Lib.hid h1
  clear h1 k1 HH c1
  go_wp2_with fail
  refine (HB.out _ _ H1.out).mono ?_
  rintro e w2 ⟨rfl, own2, h2, k2⟩
  have c0 := h2.c0
  have K2 := Lib.hid (K1.out.trans k2)
  have H2 := Lib.hid h2
  clear h2 k2 HB K1 H1
  go_wp2_with fail
  refine (HW.out _ _ H2.out).mono ?_
  rintro e w3 ⟨rfl, own3, h3, k3⟩
  have c2 := h3.c2
  have K3 := Lib.hid (K2.out.trans k3)
  have H3 := Lib.hid h3
  clear h3 k3 HW K2 H2 c0
  go_wp2_with fail
  refine (HS.out _ _ H3.out).mono ?_
  rintro e w4 ⟨rfl, own4, h4, k4⟩
  have K4 := Lib.hid (K3.out.trans k4)
  have H4 := Lib.hid h4
  clear h4 k4 HS K3 H3 c2
  go_wp2_with fail
  go_ret3
  exact ⟨rfl, own4, by rw [HR.out]; exact H4.out, K4.out⟩

end Go.Proofs.YtimpjlnbbdfehaaGreatDoor
namespace Go.Proofs.YtimpjlnbbdfehaaGreatDoor
open Go.RowKit Go.Shelf Go.Lib Go.Sort
set_option linter.unusedVariables false
attribute [local go_sem ↓] shr_32_1 shl_32_1 shr_32_2 shl_32_2 shr_32_3 shl_32_3 shr_32_4 shl_32_4 shr_32_5 shl_32_5 shr_32_6 shl_32_6 shr_32_7 shl_32_7 shr_32_8 shl_32_8 shr_32_9 shl_32_9 shr_32_10 shl_32_10 shr_32_11 shl_32_11 shr_32_12 shl_32_12 shr_32_13 shl_32_13 shr_32_14 shl_32_14 shr_32_15 shl_32_15 shr_32_16 shl_32_16 shr_32_17 shl_32_17 shr_32_18 shl_32_18 shr_32_19 shl_32_19 shr_32_20 shl_32_20 shr_32_21 shl_32_21 shr_32_22 shl_32_22 shr_32_23 shl_32_23 shr_32_24 shl_32_24 shr_32_25 shl_32_25 shr_32_26 shl_32_26 shr_32_27 shl_32_27 shr_32_28 shl_32_28 shr_32_29 shl_32_29 shr_32_30 shl_32_30 shr_32_31 shl_32_31 shr_64_3 shl_64_3 shr_64_7 shl_64_7 shr_64_8 shl_64_8 shr_64_16 shl_64_16 shr_64_24 shl_64_24 shr_64_32 shl_64_32 shr_64_40 shl_64_40 shr_64_48 shl_64_48 shr_64_56 shl_64_56
attribute [local go_sem] add_u32 add_u64 and_u8 or_u8 xor_u8 and_u32 or_u32 xor_u32 and_u64 or_u64 xor_u64 conv_32_8 conv_64_8 conv_64_32 conv_8_32 conv_8_64 conv_32_64

theorem results_cell_tmp3 {fn : Func} {p t u x : Tmp} {ty : TypeId} {P : Program} (h : fn.results = #[.cell p ty, .tmp t, .tmp u, .tmp x]) (tmps : Array Value) (w : World) (g : Nat) (cs : Array Value)
    (hp : tmps.getD p undef = .pointer (some ⟨g, 0, none⟩)) (hl : (loadVar ty ⟨g, 0, none⟩).run P w = .ok (.agg cs) w) : (results fn tmps).run P w = .ok (.tuple #[.agg cs, tmps.getD t undef, tmps.getD u undef, tmps.getD x undef]) w := by
  have hp' : tmps[p]?.getD undef = .pointer (some ⟨g, 0, none⟩) := by simpa using hp
  simp [results, h, hp', asAddr, hl]
theorem pbget_ok {w : World} {i : Ids} {st : PS} {own : Nat → Nat} (h : SysC w i st own) (m : ByteArray) (place : Int) (s : ByteArray) (hm : m.size ≤ 900000) :
    Calls Tryz.prog 70 #[.string m, .int .i64 place, .string s] w (PT i w own st (.tuple #[(bgetF m place s).1.v, .string (bgetF m place s).2.1, .int .i64 (bgetF m place s).2.2])) := by
  by_cases hs : s.size = 512
  · exact (bget_good m place s hm hs w h.salts).mono fun e w' ⟨he, hb⟩ => ⟨he, _, h.none_step (Only.ofBelow hb)⟩
  · have he : (headF s).2 ≠ 0 := by unfold headF; rw [if_neg hs]; decide
    exact (bget_bad m place s he w).mono fun e w' ⟨he, hb⟩ => ⟨he, _, h.none_step (Only.ofBelow hb)⟩
theorem pdread_ok {w : World} {i : Ids} {st : PS} {own : Nat → Nat} (h : SysC w i st own) (hl : st.d.sure.length ≤ 100000) (k : Nat) (hk : k < st.d.sure.length) :
    Calls Tryz.prog 18 #[.pointer (some ⟨i.d, 0, none⟩), .int .i64 (k : Int)] w fun e w' => e = .returned (.tuple #[.string (st.d.get k), .int .i64 0]) ∧ w = w' := by
  obtain ⟨F, ⟨sb, nb, rv, hF, _⟩, hO⟩ := h.disk
  exact dread_ok hF hl k hk
theorem pdread_out {w : World} {i : Ids} {st : PS} {own : Nat → Nat} (h : SysC w i st own) (n : Int) (hb : hasB n st.d.sure.length = false) :
    Calls Tryz.prog 18 #[.pointer (some ⟨i.d, 0, none⟩), .int .i64 n] w fun e w' => e = .returned (.tuple #[.string ⟨#[]⟩, .int .i64 1]) ∧ w = w' := by
  obtain ⟨F, ⟨sb, nb, rv, hF, _⟩, hO⟩ := h.disk
  exact dread_out hF n hb
theorem SysC.c12 {w : World} {i : Ids} {st : PS} {own : Nat → Nat} (h : SysC w i st own) : w.cell? ⟨i.p, 12, none⟩ = some (.int .i64 (st.reads : Int)) := by obtain ⟨_, _, _, _, hp, _⟩ := h.pg; exact hp.box.cell 12
theorem SysC.f {w : World} {i : Ids} {st : PS} {own : Nat → Nat} (h : SysC w i st own) (j : Nat) : w.frozen? ⟨i.p, j, none⟩ = false := by obtain ⟨_, _, _, _, hp, _⟩ := h.pg; exact hp.box.frozen j
/-- One more block was read. -/
theorem SysC.read {w : World} {i : Ids} {st : PS} {own : Nat → Nat} (h : SysC w i st own) (v : Int) (hv : v = ((st.reads + 1 : Nat) : Int)) :
    ∃ own', SysC (w.setCell ⟨i.p, 12, none⟩ (.int .i64 v)) i { st with reads := st.reads + 1 } own' ∧ Keeps w (w.setCell ⟨i.p, 12, none⟩ (.int .i64 v)) own own' := by
  subst hv
  obtain ⟨kb, fb, rv, ov, hp, hO⟩ := h.pg
  exact h.box_step hp hO { st with reads := st.reads + 1 } rfl rfl rfl rfl rfl rfl rfl rfl (hp.box.set_ 12 _) ((Only.refl w _).setCell (by simp) _)
/-- What a fetch leaves, and what it answers. -/
def PS.fetchS (st : PS) (k : Nat) (sum : ByteArray) : PS :=
  if sum = ⟨#[]⟩ then { st with reads := st.reads + 1 } else { st with reads := st.reads + 1, b := st.b.sum (st.d.get k) }
def PS.fetchV (st : PS) (k : Nat) (sum : ByteArray) : Hd × ByteArray × ByteArray × Int :=
  if sum ≠ ⟨#[]⟩ ∧ sumB (st.d.get k) ≠ sum then (hdZ, ⟨#[]⟩, ⟨#[]⟩, 8)
  else if (bgetF st.v.key k (st.d.get k)).2.2 ≠ 0 then (hdZ, ⟨#[]⟩, ⟨#[]⟩, 8)
  else ((bgetF st.v.key k (st.d.get k)).1, (bgetF st.v.key k (st.d.get k)).2.1, st.d.get k, 0)
def fetT (x : Hd × ByteArray × ByteArray × Int) : Value := .tuple #[x.1.v, .string x.2.1, .string x.2.2.1, .int .i64 x.2.2.2]
theorem str_full {a : ByteArray} (h : a ≠ ⟨#[]⟩) : a.toList.isEmpty = false := by
  rw [Lib.toList_data]
  cases hL : a.data.toList with
  | nil => exact absurd (by cases a with | mk l => exact congrArg ByteArray.mk (Array.toList_inj.1 (by simpa using hL))) h
  | cons x r => rfl
theorem sumB_full (s : ByteArray) : sumB s ≠ ⟨#[]⟩ := fun h => by
  have := sumB_size s
  rw [h] at this
  cases this
theorem zero_hd : hdZ.v = .agg #[.int .u32 0, .int .u64 0, .int .u32 0] := rfl
/-- A box of the call's own, beside all of theirs. -/
theorem SysC.box0 {w : World} {i : Ids} {st : PS} {own : Nat → Nat} (h : SysC w i st own) (o : Obj) : SysC (w.alloc o) i st (mark w own 0) ∧ Keeps w (w.alloc o) own (mark w own 0) :=
  h.none_step ((Only.refl w []).alloc o)
section
variable {a b c w w3 : World} {i : Ids} {st : PS} {o o1 own own3 : Nat → Nat}
/-- What is turned of blocks that are nobody's and new leaves all of theirs as it was. -/
theorem SysC.off (h : SysC b i st o1) (k : Keeps a b o o1) {S : List Nat} (ho : Only b c S) (hS : ∀ x ∈ S, o1 x = 0 ∧ x ≠ 0 ∧ a.heap.size ≤ x) : SysC c i st (mark b o1 0) ∧ Keeps a c o (mark b o1 0) := by
  have hn : ∀ x, o1 x ≠ 0 → x ∉ S := fun x hx hm => hx (hS x hm).1
  have hf : ∀ (F : List Nat) (m : Nat), m ≠ 0 → (∀ x ∈ F, o1 x = m) → ∀ x ∈ F, x ∉ S := fun F m hm hF x hx => hn x (by rw [hF x hx]; exact hm)
  refine ⟨⟨?_, ⟨⟨ho.blk h.dev.1.1 (hn _ (by rw [h.dev.2]; decide)), h.dev.1.2⟩, by rw [mark_old h.dev.1.1.lt]; exact h.dev.2⟩, ?_, ?_, ?_, h.salts.of_own ho (fun hm => (hS 0 hm).2.1 rfl), by rw [mark_old h.salts.1]; exact h.zero⟩,
    ⟨ho.os.trans k.os, ho.tape.trans k.tape, ho.output.trans k.output, Nat.le_trans k.size ho.size, fun x hx hz => (ho.block x (Nat.lt_of_lt_of_le hx k.size) (fun hm => by have := (hS x hm).2.2; omega)).trans (k.block x hx hz),
      fun x hx => (mark_old (Nat.lt_of_lt_of_le hx k.size)).trans (k.same x hx)⟩⟩
  · obtain ⟨G, hG, hO⟩ := h.disk
    exact ⟨G, hG.only ho (hf G 1 (by decide) hO), mark_same hO hG.lt⟩
  · obtain ⟨G, hG, hO⟩ := h.book
    exact ⟨G, hG.only ho (hf G 3 (by decide) hO), mark_same hO hG.lt⟩
  · obtain ⟨sb, hs, h1, h2, h3, h4⟩ := h.space
    exact ⟨sb, hs.only ho (hn _ (by rw [h1]; decide)) (hn _ (by rw [h2]; decide)), by rw [mark_old hs.head.lt]; exact h1, by rw [mark_old hs.row.lt]; exact h2, h3, h4⟩
  · obtain ⟨kb, fb, rv, ov, hp, hO⟩ := h.pg
    exact ⟨kb, fb, rv, ov, hp.only ho (hf _ 5 (by decide) hO), mark_same hO hp.lt⟩
theorem SysC.one (h : SysC w3 i st own3) (k : Keeps w w3 own own3) {g : Nat} (z : own3 g = 0) (g0 : g ≠ 0) (hg : w.heap.size ≤ g) (ds : Array Value) :
    ∃ own', SysC (w3.setRow g ds) i st own' ∧ Keeps w (w3.setRow g ds) own own' :=
  ⟨_, h.off k (only_setRow (Only.refl w3 [g]) (List.mem_singleton.2 rfl) ds) (fun x hx => by rw [List.mem_singleton] at hx; subst hx; exact ⟨z, g0, hg⟩)⟩
theorem SysC.two (h : SysC w3 i st own3) (k : Keeps w w3 own own3) {g : Nat} (z : own3 g = 0) (g0 : g ≠ 0) (hg : w.heap.size ≤ g) (hg3 : g < w3.heap.size) (o : Obj) (cs ds : Array Value) :
    ∃ own', SysC (((w3.alloc o).setRow w3.heap.size cs).setRow g ds) i st own' ∧ Keeps w (((w3.alloc o).setRow w3.heap.size cs).setRow g ds) own own' := by
  obtain ⟨h1, k1⟩ := h.box0 o
  have z1 : mark w3 own3 0 w3.heap.size = 0 := mark_new (Nat.le_refl _)
  have hs := h.salts.1
  obtain ⟨h2, k2⟩ := h1.off (k.trans k1) (c := (w3.alloc o).setRow w3.heap.size cs) (only_setRow (Only.refl _ [w3.heap.size]) (List.mem_singleton.2 rfl) cs) (fun x hx => by rw [List.mem_singleton] at hx; subst hx; exact ⟨z1, by omega, k.size⟩)
  refine h2.one k2 ?_ g0 hg ds
  rw [mark_old (by simp; omega), mark_old hg3]
  exact z
end
theorem DS.ok.get_size {s : DS} (ok : s.ok) (k : Nat) (hk : k < s.sure.length) : (s.get k).size = 512 := by
  unfold DS.get
  cases hm : mget s.now (k : Int) with
  | some x => exact ok.nall _ (mget_mem hm)
  | none =>
    refine ok.all _ ?_
    show s.sure.getD k ⟨#[]⟩ ∈ s.sure
    rw [List.getD_eq_getElem?_getD, List.getElem?_eq_getElem hk]
    exact List.getElem_mem hk

end Go.Proofs.YtimpjlnbbdfehaaGreatDoor
namespace Go.Proofs.YtimpjlnbbdfehaaGreatDoor
open Go.RowKit Go.Shelf Go.Lib Go.Sort
set_option linter.unusedVariables false
attribute [local go_sem ↓] shr_32_1 shl_32_1 shr_32_2 shl_32_2 shr_32_3 shl_32_3 shr_32_4 shl_32_4 shr_32_5 shl_32_5 shr_32_6 shl_32_6 shr_32_7 shl_32_7 shr_32_8 shl_32_8 shr_32_9 shl_32_9 shr_32_10 shl_32_10 shr_32_11 shl_32_11 shr_32_12 shl_32_12 shr_32_13 shl_32_13 shr_32_14 shl_32_14 shr_32_15 shl_32_15 shr_32_16 shl_32_16 shr_32_17 shl_32_17 shr_32_18 shl_32_18 shr_32_19 shl_32_19 shr_32_20 shl_32_20 shr_32_21 shl_32_21 shr_32_22 shl_32_22 shr_32_23 shl_32_23 shr_32_24 shl_32_24 shr_32_25 shl_32_25 shr_32_26 shl_32_26 shr_32_27 shl_32_27 shr_32_28 shl_32_28 shr_32_29 shl_32_29 shr_32_30 shl_32_30 shr_32_31 shl_32_31 shr_64_3 shl_64_3 shr_64_7 shl_64_7 shr_64_8 shl_64_8 shr_64_16 shl_64_16 shr_64_24 shl_64_24 shr_64_32 shl_64_32 shr_64_40 shl_64_40 shr_64_48 shl_64_48 shr_64_56 shl_64_56
attribute [local go_sem] add_u32 add_u64 and_u8 or_u8 xor_u8 and_u32 or_u32 xor_u32 and_u64 or_u64 xor_u64 conv_32_8 conv_64_8 conv_64_32 conv_8_32 conv_8_64 conv_32_64

set_option maxHeartbeats 4000000 in
set_option maxRecDepth 100000 in
theorem fetch_out {w : World} {i : Ids} {st : PS} {own : Nat → Nat} (h : SysC w i st own) (n : Int) (hb : hasB n st.d.sure.length = false) (sum : ByteArray) :
    Calls Tryz.prog 19 #[.pointer (some ⟨i.p, 0, none⟩), .int .i64 n, .string sum] w (PT i w own st (fetT (hdZ, ⟨#[]⟩, ⟨#[]⟩, 1))) := by
  have HA : Hid (Blk (w.alloc (.cells #[.int .u32 0, .int .u64 0, .int .u32 0] 36)) w.heap.size 36 #[.int .u32 0, .int .u64 0, .int .u32 0]) := Blk.new w 36 _
  obtain ⟨h0, k0⟩ := h.box0 (.cells #[.int .u32 0, .int .u64 0, .int .u32 0] 36)
  have HR := Lib.hid (pdread_out h0 n hb)
  have c0 := h0.c0
  have HF := Lib.hid (h0.one k0 (mark_new (Nat.le_refl _)) (by have := h.salts.1; omega) (Nat.le_refl _) #[.int .u32 0, .int .u64 0, .int .u32 0])
  clear h hb h0 k0
  unfold fetT
  rw [zero_hd]
  go_enter Tryz.func19, Tryz.ntmps19
  go_wp2_with (first
    | ((with_reducible refine HR.out.mono ?_); rintro e w' ⟨rfl, rfl⟩)
    | (refine wpList_store_row rfl 36 (.tmp 6) (.tmp 28) (by rfl) w.heap.size #[.int .u32 0, .int .u64 0, .int .u32 0] (by rfl) (by rfl) 36 _ HA.out info36 (by rfl) (by simp [Value.oneCell']) ?_))
  refine bodyPost_ret (results_cell_tmp3 (fn := Tryz.f19) rfl _ _ w.heap.size #[.int .u32 0, .int .u64 0, .int .u32 0] (by rfl) (run_loadVar_row _ _ _ _ _ _ _ (HA.out.row _) Tryz.underlying36 rfl info36)) rfl ?_
  exact ⟨rfl, HF.out⟩
set_option maxHeartbeats 4000000 in
set_option maxRecDepth 100000 in
theorem fetch_any {w : World} {i : Ids} {st : PS} {own : Nat → Nat} (h : SysC w i st own) (ok : st.ok) (k : Nat) (hk : k < st.d.sure.length) :
    Calls Tryz.prog 19 #[.pointer (some ⟨i.p, 0, none⟩), .int .i64 (k : Int), .string ⟨#[]⟩] w (PT i w own (st.fetchS k ⟨#[]⟩) (fetT (st.fetchV k ⟨#[]⟩))) := by
  have hok : st.d.sure.length ≤ 100000 := ok.d.len
  have HA : Hid (Blk (w.alloc (.cells #[.int .u32 0, .int .u64 0, .int .u32 0] 36)) w.heap.size 36 #[.int .u32 0, .int .u64 0, .int .u32 0]) := Blk.new w 36 _
  obtain ⟨h0, k0⟩ := h.box0 (.cells #[.int .u32 0, .int .u64 0, .int .u32 0] 36)
  have HR := Lib.hid (pdread_ok h0 hok k hk)
  have c0 := h0.c0
  have c12 := h0.c12
  have f12 := h0.f 12
  have z0 : mark w own 0 w.heap.size = 0 := mark_new (Nat.le_refl _)
  have hrd : st.reads ≤ 1000000 := ok.reads
  obtain ⟨r1, hr1⟩ : ∃ r1 : Nat, r1 = st.reads + 1 := ⟨_, rfl⟩
  have hw : IntKind.i64.wrap ((st.reads : Int) + 1) = (r1 : Int) := by rw [hr1]; exact wrap_in _ (by omega) (by omega)
  obtain ⟨own1, h1, k1⟩ := h0.read (r1 : Int) (by rw [hr1])
  have c1 := h0.c1
  have c2 := h0.c2
  have z1 : own1 w.heap.size = 0 := (k1.same _ (by simp)).trans z0
  have HB1 := Lib.hid (k1.blk HA.out z0)
  have g0 : Hid (w.heap.size ≠ 0) := by have := h.salts.1; show w.heap.size ≠ 0; omega
  have hkey := ok.key
  obtain ⟨x, hx⟩ : ∃ x, x = st.d.get k := ⟨_, rfl⟩
  have hxs : x.size ≤ 1000000 := by rw [hx, ok.d.get_size k hk]; omega
  rw [← hx] at HR
  have H1 := Lib.hid h1
  have K1 := Lib.hid (k0.trans k1)
  have Z1 := Lib.hid z1
  have HX := Lib.hid hx
  clear z0 z1 h1 k1 h0 k0 hrd hok hx hr1
  have HSS : Hid (st.fetchS k ⟨#[]⟩ = { st with reads := st.reads + 1 }) := if_pos rfl
  have HVAL : Hid (st.fetchV k ⟨#[]⟩ = if (bgetF st.v.key k x).2.2 ≠ 0 then (hdZ, ⟨#[]⟩, ⟨#[]⟩, 8) else ((bgetF st.v.key k x).1, (bgetF st.v.key k x).2.1, x, 0)) := by
    rw [HX.out]; exact if_neg (fun h => h.1 rfl)
  rw [HSS.out]
  clear h ok hk
  go_enter Tryz.func19, Tryz.ntmps19
  go_wp2_with ((with_reducible refine HR.out.mono ?_); rintro e w' ⟨rfl, rfl⟩)
  generalize (w.alloc (.cells #[.int .u32 0, .int .u64 0, .int .u32 0] 36)).setCell ⟨i.p, 12, none⟩ (.int .i64 (r1 : Int)) = w1 at *
  clear c0 c1 c2 c12 f12 hw HR HA
  have c1 := H1.out.c1
  have HKEY := Lib.hid (pkey_ok H1.out)
  have HG := Lib.hid (pbget_ok H1.out st.v.key (k : Int) x hkey)
  obtain ⟨res, hres⟩ : ∃ res, res = bgetF st.v.key k x := ⟨_, rfl⟩
  rw [← hres] at HG HVAL
  clear hres
  obtain ⟨hd, tx, er⟩ := res
  dsimp only at HG HVAL
  unfold Hd.v at HG
  have HONE := Lib.hid (hd_one hd)
  have HSZ : Hid (hd.cells.size = 3) := rfl
  have HHV : Hid (hd.v = .agg hd.cells) := rfl
  go_wp2_with ((with_reducible refine HKEY.out.mono ?_); rintro e w' ⟨rfl, rfl⟩)
  refine HG.out.mono ?_
  rintro e wg ⟨rfl, owng, hg, kg⟩
  have HGS := Lib.hid hg
  have HGK := Lib.hid (K1.out.trans kg)
  have HZG := Lib.hid ((kg.same _ HB1.out.lt).trans Z1.out)
  have HBG := Lib.hid (kg.blk HB1.out Z1.out)
  clear hg kg c1 HKEY HG H1 K1 Z1 HB1
  generalize hd.cells = CS at *
  have HN : Hid (Blk (wg.alloc (.cells #[.int .u32 0, .int .u64 0, .int .u32 0] 36)) wg.heap.size 36 #[.int .u32 0, .int .u64 0, .int .u32 0]) := Blk.new wg 36 _
  have HLG : Hid (w.heap.size < wg.heap.size) := HBG.out.lt
  have HN2 : Hid (Blk ((wg.alloc (.cells #[.int .u32 0, .int .u64 0, .int .u32 0] 36)).setRow wg.heap.size CS) wg.heap.size 36 CS) := HN.out.row _
  have HG2 : Hid (Blk ((wg.alloc (.cells #[.int .u32 0, .int .u64 0, .int .u32 0] 36)).setRow wg.heap.size CS) w.heap.size 36 #[.int .u32 0, .int .u64 0, .int .u32 0]) := (HBG.out.alloc _).farRow (by have := HLG.out; omega) _
  by_cases her : er = 0
  · subst her
    have HV := Lib.hid (HVAL.out.trans (if_neg (by simp)))
    have HT := Lib.hid (HGS.out.two HGK.out HZG.out g0.out (Nat.le_refl _) HLG.out (.cells #[.int .u32 0, .int .u64 0, .int .u32 0] 36) CS CS)
    go_wp2_with (first
      | (refine wpList_store_row rfl 36 (.tmp 12) (.tmp 59) (by rfl) wg.heap.size CS (by rfl) (by rfl) 36 _ HN.out (by rw [HSZ.out]; exact info36) (by rw [HSZ.out]; rfl) HONE.out ?_)
      | (refine wpList_load_row rfl 36 (.tmp 12) (by rfl) wg.heap.size (by rfl) 36 CS (0, 0) _ HN2.out Tryz.underlying36 rfl (by rw [HSZ.out]; exact info36) ?_)
      | (refine wpList_store_row rfl 36 (.tmp 6) (.tmp 65) (by rfl) w.heap.size CS (by rfl) (by rfl) 36 _ HG2.out (by rw [HSZ.out]; exact info36) (by rw [HSZ.out]; rfl) HONE.out ?_))
    refine bodyPost_ret (results_cell_tmp3 (fn := Tryz.f19) rfl _ _ w.heap.size CS (by rfl) (run_loadVar_row _ _ _ _ _ _ _ (HG2.out.row _) Tryz.underlying36 rfl (by rw [HSZ.out]; exact info36))) rfl ?_
    exact ⟨by rw [HV.out]; unfold fetT; dsimp only; rw [HHV.out]; rfl, HT.out⟩
  · have HV := Lib.hid (HVAL.out.trans (if_pos her))
    have hne : (er != 0) = true := by simp [her]
    have HT := Lib.hid (HGS.out.two HGK.out HZG.out g0.out (Nat.le_refl _) HLG.out (.cells #[.int .u32 0, .int .u64 0, .int .u32 0] 36) CS #[.int .u32 0, .int .u64 0, .int .u32 0])
    go_wp2_with (first
      | (refine wpList_store_row rfl 36 (.tmp 12) (.tmp 59) (by rfl) wg.heap.size CS (by rfl) (by rfl) 36 _ HN.out (by rw [HSZ.out]; exact info36) (by rw [HSZ.out]; rfl) HONE.out ?_)
      | (refine wpList_store_row rfl 36 (.tmp 6) (.tmp 64) (by rfl) w.heap.size #[.int .u32 0, .int .u64 0, .int .u32 0] (by rfl) (by rfl) 36 _ HG2.out info36 (by rfl) (by simp [Value.oneCell']) ?_))
    refine bodyPost_ret (results_cell_tmp3 (fn := Tryz.f19) rfl _ _ w.heap.size #[.int .u32 0, .int .u64 0, .int .u32 0] (by rfl) (run_loadVar_row _ _ _ _ _ _ _ (HG2.out.row _) Tryz.underlying36 rfl info36)) rfl ?_
    exact ⟨by rw [HV.out]; rfl, HT.out⟩
set_option maxHeartbeats 4000000 in
set_option maxRecDepth 100000 in
theorem fetch_other {w : World} {i : Ids} {st : PS} {own : Nat → Nat} (h : SysC w i st own) (ok : st.ok) (k : Nat) (hk : k < st.d.sure.length) (sum : ByteArray) (hs : sum ≠ ⟨#[]⟩) (hne : sumB (st.d.get k) ≠ sum) :
    Calls Tryz.prog 19 #[.pointer (some ⟨i.p, 0, none⟩), .int .i64 (k : Int), .string sum] w (PT i w own (st.fetchS k sum) (fetT (st.fetchV k sum))) := by
  have hok : st.d.sure.length ≤ 100000 := ok.d.len
  have HA : Hid (Blk (w.alloc (.cells #[.int .u32 0, .int .u64 0, .int .u32 0] 36)) w.heap.size 36 #[.int .u32 0, .int .u64 0, .int .u32 0]) := Blk.new w 36 _
  obtain ⟨h0, k0⟩ := h.box0 (.cells #[.int .u32 0, .int .u64 0, .int .u32 0] 36)
  have HR := Lib.hid (pdread_ok h0 hok k hk)
  have c0 := h0.c0
  have c12 := h0.c12
  have f12 := h0.f 12
  have z0 : mark w own 0 w.heap.size = 0 := mark_new (Nat.le_refl _)
  have hrd : st.reads ≤ 1000000 := ok.reads
  obtain ⟨r1, hr1⟩ : ∃ r1 : Nat, r1 = st.reads + 1 := ⟨_, rfl⟩
  have hw : IntKind.i64.wrap ((st.reads : Int) + 1) = (r1 : Int) := by rw [hr1]; exact wrap_in _ (by omega) (by omega)
  obtain ⟨own1, h1, k1⟩ := h0.read (r1 : Int) (by rw [hr1])
  have c1 := h0.c1
  have c2 := h0.c2
  have z1 : own1 w.heap.size = 0 := (k1.same _ (by simp)).trans z0
  have HB1 := Lib.hid (k1.blk HA.out z0)
  have g0 : Hid (w.heap.size ≠ 0) := by have := h.salts.1; show w.heap.size ≠ 0; omega
  have hkey := ok.key
  obtain ⟨x, hx⟩ : ∃ x, x = st.d.get k := ⟨_, rfl⟩
  have hxs : x.size ≤ 1000000 := by rw [hx, ok.d.get_size k hk]; omega
  rw [← hx] at HR
  have H1 := Lib.hid h1
  have K1 := Lib.hid (k0.trans k1)
  have Z1 := Lib.hid z1
  have HX := Lib.hid hx
  have HSUM := Lib.hid (psum_ok H1.out x hxs)
  clear z0 z1 h1 k1 h0 k0 hrd hok hx hr1
  have HSS : Hid (st.fetchS k sum = { st with reads := st.reads + 1, b := st.b.sum x }) := by rw [HX.out]; exact if_neg hs
  have HV : Hid (st.fetchV k sum = (hdZ, ⟨#[]⟩, ⟨#[]⟩, 8)) := if_pos ⟨hs, hne⟩
  have hs1 := str_full hs
  rw [← HX.out] at hne
  have hs2 := bool_str_ne hne
  rw [HSS.out]
  generalize sumB x = sx at *
  clear h ok hk hs hne
  go_enter Tryz.func19, Tryz.ntmps19
  go_wp2_with ((with_reducible refine HR.out.mono ?_); rintro e w' ⟨rfl, rfl⟩)
  generalize (w.alloc (.cells #[.int .u32 0, .int .u64 0, .int .u32 0] 36)).setCell ⟨i.p, 12, none⟩ (.int .i64 (r1 : Int)) = w1 at *
  clear c0 c1 c2 c12 f12 hw HR HA
  refine HSUM.out.mono ?_
  rintro e w2 ⟨rfl, own2, h2, k2⟩
  have HB2 := Lib.hid (k2.blk HB1.out Z1.out)
  have HF := Lib.hid (h2.one (K1.out.trans k2) ((k2.same _ HB1.out.lt).trans Z1.out) g0.out (Nat.le_refl _) #[.int .u32 0, .int .u64 0, .int .u32 0])
  clear h2 k2 HSUM
  go_wp2_with (refine wpList_store_row rfl 36 (.tmp 6) (.tmp 49) (by rfl) w.heap.size #[.int .u32 0, .int .u64 0, .int .u32 0] (by rfl) (by rfl) 36 _ HB2.out info36 (by rfl) (by simp [Value.oneCell']) ?_)
  refine bodyPost_ret (results_cell_tmp3 (fn := Tryz.f19) rfl _ _ w.heap.size #[.int .u32 0, .int .u64 0, .int .u32 0] (by rfl) (run_loadVar_row _ _ _ _ _ _ _ (HB2.out.row _) Tryz.underlying36 rfl info36)) rfl ?_
  exact ⟨by rw [HV.out]; rfl, HF.out⟩
set_option maxHeartbeats 4000000 in
set_option maxRecDepth 100000 in
theorem fetch_same {w : World} {i : Ids} {st : PS} {own : Nat → Nat} (h : SysC w i st own) (ok : st.ok) (k : Nat) (hk : k < st.d.sure.length) :
    Calls Tryz.prog 19 #[.pointer (some ⟨i.p, 0, none⟩), .int .i64 (k : Int), .string (sumB (st.d.get k))] w (PT i w own (st.fetchS k (sumB (st.d.get k))) (fetT (st.fetchV k (sumB (st.d.get k))))) := by
  have hok : st.d.sure.length ≤ 100000 := ok.d.len
  have HA : Hid (Blk (w.alloc (.cells #[.int .u32 0, .int .u64 0, .int .u32 0] 36)) w.heap.size 36 #[.int .u32 0, .int .u64 0, .int .u32 0]) := Blk.new w 36 _
  obtain ⟨h0, k0⟩ := h.box0 (.cells #[.int .u32 0, .int .u64 0, .int .u32 0] 36)
  have HR := Lib.hid (pdread_ok h0 hok k hk)
  have c0 := h0.c0
  have c12 := h0.c12
  have f12 := h0.f 12
  have z0 : mark w own 0 w.heap.size = 0 := mark_new (Nat.le_refl _)
  have hrd : st.reads ≤ 1000000 := ok.reads
  obtain ⟨r1, hr1⟩ : ∃ r1 : Nat, r1 = st.reads + 1 := ⟨_, rfl⟩
  have hw : IntKind.i64.wrap ((st.reads : Int) + 1) = (r1 : Int) := by rw [hr1]; exact wrap_in _ (by omega) (by omega)
  obtain ⟨own1, h1, k1⟩ := h0.read (r1 : Int) (by rw [hr1])
  have c1 := h0.c1
  have c2 := h0.c2
  have z1 : own1 w.heap.size = 0 := (k1.same _ (by simp)).trans z0
  have HB1 := Lib.hid (k1.blk HA.out z0)
  have g0 : Hid (w.heap.size ≠ 0) := by have := h.salts.1; show w.heap.size ≠ 0; omega
  have hkey := ok.key
  obtain ⟨x, hx⟩ : ∃ x, x = st.d.get k := ⟨_, rfl⟩
  have hxs : x.size ≤ 1000000 := by rw [hx, ok.d.get_size k hk]; omega
  rw [← hx] at HR
  have H1 := Lib.hid h1
  have K1 := Lib.hid (k0.trans k1)
  have Z1 := Lib.hid z1
  have HX := Lib.hid hx
  have HSUM := Lib.hid (psum_ok H1.out x hxs)
  clear z0 z1 h1 k1 h0 k0 hrd hok hx hr1
  have hs := sumB_full (st.d.get k)
  have HSS : Hid (st.fetchS k (sumB (st.d.get k)) = { st with reads := st.reads + 1, b := st.b.sum x }) := by rw [HX.out]; exact if_neg hs
  have HVAL : Hid (st.fetchV k (sumB (st.d.get k)) = if (bgetF st.v.key k x).2.2 ≠ 0 then (hdZ, ⟨#[]⟩, ⟨#[]⟩, 8) else ((bgetF st.v.key k x).1, (bgetF st.v.key k x).2.1, x, 0)) := by
    rw [HX.out]; exact if_neg (fun h => h.2 rfl)
  have hs1 := str_full hs
  rw [HSS.out]
  rw [← HX.out] at hs1 hs HVAL ⊢
  generalize sumB x = sx at *
  clear h ok hk hs
  go_enter Tryz.func19, Tryz.ntmps19
  go_wp2_with ((with_reducible refine HR.out.mono ?_); rintro e w' ⟨rfl, rfl⟩)
  generalize (w.alloc (.cells #[.int .u32 0, .int .u64 0, .int .u32 0] 36)).setCell ⟨i.p, 12, none⟩ (.int .i64 (r1 : Int)) = w1 at *
  clear c0 c1 c2 c12 f12 hw HR HA
  refine HSUM.out.mono ?_
  rintro e w2 ⟨rfl, own2, h2, k2⟩
  have HB2 := Lib.hid (k2.blk HB1.out Z1.out)
  have H2 := Lib.hid h2
  have K2 := Lib.hid (K1.out.trans k2)
  have Z2 := Lib.hid ((k2.same _ HB1.out.lt).trans Z1.out)
  clear h2 k2 HSUM H1 K1 Z1 HB1
  have c1 := H2.out.c1
  have HKEY := Lib.hid (pkey_ok H2.out)
  have HG := Lib.hid (pbget_ok H2.out st.v.key (k : Int) x hkey)
  obtain ⟨res, hres⟩ : ∃ res, res = bgetF st.v.key k x := ⟨_, rfl⟩
  rw [← hres] at HG HVAL
  clear hres
  obtain ⟨hd, tx, er⟩ := res
  dsimp only at HG HVAL
  unfold Hd.v at HG
  have HONE := Lib.hid (hd_one hd)
  have HSZ : Hid (hd.cells.size = 3) := rfl
  have HHV : Hid (hd.v = .agg hd.cells) := rfl
  go_wp2_with ((with_reducible refine HKEY.out.mono ?_); rintro e w' ⟨rfl, rfl⟩)
  refine HG.out.mono ?_
  rintro e wg ⟨rfl, owng, hg, kg⟩
  have HGS := Lib.hid hg
  have HGK := Lib.hid (K2.out.trans kg)
  have HZG := Lib.hid ((kg.same _ HB2.out.lt).trans Z2.out)
  have HBG := Lib.hid (kg.blk HB2.out Z2.out)
  clear hg kg c1 HKEY HG H2 K2 Z2 HB2
  generalize hd.cells = CS at *
  have HN : Hid (Blk (wg.alloc (.cells #[.int .u32 0, .int .u64 0, .int .u32 0] 36)) wg.heap.size 36 #[.int .u32 0, .int .u64 0, .int .u32 0]) := Blk.new wg 36 _
  have HLG : Hid (w.heap.size < wg.heap.size) := HBG.out.lt
  have HN2 : Hid (Blk ((wg.alloc (.cells #[.int .u32 0, .int .u64 0, .int .u32 0] 36)).setRow wg.heap.size CS) wg.heap.size 36 CS) := HN.out.row _
  have HG2 : Hid (Blk ((wg.alloc (.cells #[.int .u32 0, .int .u64 0, .int .u32 0] 36)).setRow wg.heap.size CS) w.heap.size 36 #[.int .u32 0, .int .u64 0, .int .u32 0]) := (HBG.out.alloc _).farRow (by have := HLG.out; omega) _
  by_cases her : er = 0
  · subst her
    have HV := Lib.hid (HVAL.out.trans (if_neg (by simp)))
    have HT := Lib.hid (HGS.out.two HGK.out HZG.out g0.out (Nat.le_refl _) HLG.out (.cells #[.int .u32 0, .int .u64 0, .int .u32 0] 36) CS CS)
    go_wp2_with (first
      | (refine wpList_store_row rfl 36 (.tmp 12) (.tmp 59) (by rfl) wg.heap.size CS (by rfl) (by rfl) 36 _ HN.out (by rw [HSZ.out]; exact info36) (by rw [HSZ.out]; rfl) HONE.out ?_)
      | (refine wpList_load_row rfl 36 (.tmp 12) (by rfl) wg.heap.size (by rfl) 36 CS (0, 0) _ HN2.out Tryz.underlying36 rfl (by rw [HSZ.out]; exact info36) ?_)
      | (refine wpList_store_row rfl 36 (.tmp 6) (.tmp 65) (by rfl) w.heap.size CS (by rfl) (by rfl) 36 _ HG2.out (by rw [HSZ.out]; exact info36) (by rw [HSZ.out]; rfl) HONE.out ?_))
    refine bodyPost_ret (results_cell_tmp3 (fn := Tryz.f19) rfl _ _ w.heap.size CS (by rfl) (run_loadVar_row _ _ _ _ _ _ _ (HG2.out.row _) Tryz.underlying36 rfl (by rw [HSZ.out]; exact info36))) rfl ?_
    exact ⟨by rw [HV.out]; unfold fetT; dsimp only; rw [HHV.out]; rfl, HT.out⟩
  · have HV := Lib.hid (HVAL.out.trans (if_pos her))
    have hne : (er != 0) = true := by simp [her]
    have HT := Lib.hid (HGS.out.two HGK.out HZG.out g0.out (Nat.le_refl _) HLG.out (.cells #[.int .u32 0, .int .u64 0, .int .u32 0] 36) CS #[.int .u32 0, .int .u64 0, .int .u32 0])
    go_wp2_with (first
      | (refine wpList_store_row rfl 36 (.tmp 12) (.tmp 59) (by rfl) wg.heap.size CS (by rfl) (by rfl) 36 _ HN.out (by rw [HSZ.out]; exact info36) (by rw [HSZ.out]; rfl) HONE.out ?_)
      | (refine wpList_store_row rfl 36 (.tmp 6) (.tmp 64) (by rfl) w.heap.size #[.int .u32 0, .int .u64 0, .int .u32 0] (by rfl) (by rfl) 36 _ HG2.out info36 (by rfl) (by simp [Value.oneCell']) ?_))
    refine bodyPost_ret (results_cell_tmp3 (fn := Tryz.f19) rfl _ _ w.heap.size #[.int .u32 0, .int .u64 0, .int .u32 0] (by rfl) (run_loadVar_row _ _ _ _ _ _ _ (HG2.out.row _) Tryz.underlying36 rfl info36)) rfl ?_
    exact ⟨by rw [HV.out]; rfl, HT.out⟩

end Go.Proofs.YtimpjlnbbdfehaaGreatDoor
