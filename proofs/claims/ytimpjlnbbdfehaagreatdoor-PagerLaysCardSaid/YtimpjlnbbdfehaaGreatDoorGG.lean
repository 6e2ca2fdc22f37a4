import Derived.Test.YtimpjlnbbdfehaaGreatDoorGF
import Derived.DeepKeys4
import Derived.Test.YtimpjlnbbdfehaaGreatDoorGA
namespace Go.Proofs.YtimpjlnbbdfehaaGreatDoor
open Go.RowKit Go.Shelf Go.Lib Go.Sort
set_option linter.unusedVariables false
attribute [local go_sem ↓] shr_32_1 shl_32_1 shr_32_2 shl_32_2 shr_32_3 shl_32_3 shr_32_4 shl_32_4 shr_32_5 shl_32_5 shr_32_6 shl_32_6 shr_32_7 shl_32_7 shr_32_8 shl_32_8 shr_32_9 shl_32_9 shr_32_10 shl_32_10 shr_32_11 shl_32_11 shr_32_12 shl_32_12 shr_32_13 shl_32_13 shr_32_14 shl_32_14 shr_32_15 shl_32_15 shr_32_16 shl_32_16 shr_32_17 shl_32_17 shr_32_18 shl_32_18 shr_32_19 shl_32_19 shr_32_20 shl_32_20 shr_32_21 shl_32_21 shr_32_22 shl_32_22 shr_32_23 shl_32_23 shr_32_24 shl_32_24 shr_32_25 shl_32_25 shr_32_26 shl_32_26 shr_32_27 shl_32_27 shr_32_28 shl_32_28 shr_32_29 shl_32_29 shr_32_30 shl_32_30 shr_32_31 shl_32_31 shr_64_3 shl_64_3 shr_64_7 shl_64_7 shr_64_8 shl_64_8 shr_64_16 shl_64_16 shr_64_24 shl_64_24 shr_64_32 shl_64_32 shr_64_40 shl_64_40 shr_64_48 shl_64_48 shr_64_56 shl_64_56
attribute [local go_sem] add_u32 add_u64 and_u8 or_u8 xor_u8 and_u32 or_u32 xor_u32 and_u64 or_u64 xor_u64 conv_32_8 conv_64_8 conv_64_32 conv_8_32 conv_8_64 conv_32_64

theorem laidOut : laidOutB Tryz.prog = true := by kernel_rfl
theorem row54 : (54 : TypeId) < Tryz.prog.types.size := of_decide_eq_true (by kernel_rfl)
theorem wide54 : (match Tryz.prog.underlying 54 with | some (.array _ _) | some (.struct _) => true | _ => false) = true := by kernel_rfl
set_option maxRecDepth 100000 in
theorem K54 : Maps.Keyed Tryz.prog 54 := Maps.Keyed.of_law (deep_law_laid laidOut (m := 2) (by omega) row54 (by kernel_rfl) wide54)
theorem kt54 : Tryz.prog.keyType 54 = true := by kernel_rfl
theorem cells54 : Tryz.prog.cellsOf 54 = 2 := by kernel_rfl
theorem cells3 : Tryz.prog.cellsOf 3 = 1 := by kernel_rfl
theorem cells9 : Tryz.prog.cellsOf 9 = 1 := by kernel_rfl
theorem pos_succ {m : Nat} (h : 54 < m) : ∃ n, m = n + 1 := ⟨m - 1, by omega⟩
theorem types_pos : ∃ n, Tryz.prog.types.size = n + 1 := pos_succ row54
theorem formed54 (r : Ref) : r.v.formed Tryz.prog 54 = true := by
  unfold Ref.v Ref.cells Value.formed
  rw [Tryz.underlying54, cells54]
  rfl
theorem lits3 {n : Int} (hwf : (Lit.int .i64 n).wf = true) (d : Nat) : Tryz.prog.keyLits (d + 1) 3 [.int .i64 n] = some [.int .i64 n] := by
  unfold Program.keyLits
  rw [Tryz.underlying3]
  simp [hwf]
theorem lits9 {s : ByteArray} (h : s.size ≤ maxLen) (d : Nat) : Tryz.prog.keyLits (d + 1) 9 [.string s] = some [.string s.data.toList] := by
  unfold Program.keyLits
  rw [Tryz.underlying9]
  simp [h]
theorem lits54 (r : Ref) (hwf : (Lit.int .i64 r.place).wf = true) (h : r.sum.size ≤ maxLen) (d : Nat) : Tryz.prog.keyLits (d + 1 + 1) 54 [.int .i64 r.place, .string r.sum] = some [.int .i64 r.place, .string r.sum.data.toList] := by
  unfold Program.keyLits
  rw [Tryz.underlying54]
  have e1 := lits3 hwf d
  have e2 := lits9 h d
  simp [cells54, cells3, cells9, e1, e2]
theorem wf64 {n : Int} (h : I64 n) : (Lit.int .i64 n).wf = true := by
  obtain ⟨a, b⟩ := h
  simp [Lit.wf, IntKind.min, IntKind.max, IntKind.signed, IntKind.bits]
  omega
theorem key54 {r : Ref} (h1 : I64 r.place) (h2 : r.sum.size ≤ maxLen) : ∃ l, keyOf Tryz.prog 54 r.v = some l := by
  obtain ⟨n, hn⟩ := types_pos
  have hl : Tryz.prog.keyLits (Tryz.prog.types.size + 1) 54 r.v.cells.toList = some [.int .i64 r.place, .string r.sum.data.toList] := by
    rw [hn]; exact lits54 r (wf64 h1) h2 n
  refine Option.isSome_iff_exists.1 ?_
  unfold keyOf
  rw [Tryz.underlying54]
  simp only [kt54, formed54, Bool.and_self, if_true]
  rw [hl]
  rfl

end Go.Proofs.YtimpjlnbbdfehaaGreatDoor
namespace Go.Proofs.YtimpjlnbbdfehaaGreatDoor
open Go.RowKit Go.Shelf Go.Lib Go.Sort
set_option linter.unusedVariables false
attribute [local go_sem ↓] shr_32_1 shl_32_1 shr_32_2 shl_32_2 shr_32_3 shl_32_3 shr_32_4 shl_32_4 shr_32_5 shl_32_5 shr_32_6 shl_32_6 shr_32_7 shl_32_7 shr_32_8 shl_32_8 shr_32_9 shl_32_9 shr_32_10 shl_32_10 shr_32_11 shl_32_11 shr_32_12 shl_32_12 shr_32_13 shl_32_13 shr_32_14 shl_32_14 shr_32_15 shl_32_15 shr_32_16 shl_32_16 shr_32_17 shl_32_17 shr_32_18 shl_32_18 shr_32_19 shl_32_19 shr_32_20 shl_32_20 shr_32_21 shl_32_21 shr_32_22 shl_32_22 shr_32_23 shl_32_23 shr_32_24 shl_32_24 shr_32_25 shl_32_25 shr_32_26 shl_32_26 shr_32_27 shl_32_27 shr_32_28 shl_32_28 shr_32_29 shl_32_29 shr_32_30 shl_32_30 shr_32_31 shl_32_31 shr_64_3 shl_64_3 shr_64_7 shl_64_7 shr_64_8 shl_64_8 shr_64_16 shl_64_16 shr_64_24 shl_64_24 shr_64_32 shl_64_32 shr_64_40 shl_64_40 shr_64_48 shl_64_48 shr_64_56 shl_64_56
attribute [local go_sem] add_u32 add_u64 and_u8 or_u8 xor_u8 and_u32 or_u32 xor_u32 and_u64 or_u64 xor_u64 conv_32_8 conv_64_8 conv_64_32 conv_8_32 conv_8_64 conv_32_64

theorem SysC.drew {a b : World} {i : Ids} {st : PS} {o o1 : Nat → Nat} (h : SysC b i st o1) (k : Keeps a b o o1) (n : Nat) : ∃ own', SysC (b.drewN n) i st own' ∧ Keeps a (b.drewN n) o own' :=
  ⟨_, h.off k ((Only.refl b []).drewN n) (fun x hx => by cases hx)⟩
theorem info54 : (Tryz.prog.info? 54).map (·.size) = some 2 := by kernel_rfl
theorem PgC.look {w : World} {i : Ids} {kb fb : Nat} {rv ov : Value} {st : PS} (h : PgC w i kb fb rv ov st) (r : Ref) (h1 : I64 r.place) (h2 : r.sum.size ≤ maxLen) :
    (Instr.lookup 123 (.map (some kb)) (.agg #[.int .i64 r.place, .string r.sum]) true).run Tryz.prog w = .ok (.tuple #[.string ((mget st.kept r).getD ⟨#[]⟩), .bool (mget st.kept r).isSome]) w := by
  have := h.kept.look2 K54 refv_inj Tryz.underlying123 (zero9 w) r (key54 h1 h2)
  rw [show r.v = .agg #[.int .i64 r.place, .string r.sum] by rfl] at this
  rw [this]
  cases mget st.kept r <;> rfl
/-- A place and a sum that a reference may bear. -/
def RefOk (r : Ref) : Prop := I64 r.place ∧ r.sum.size ≤ maxLen
set_option maxHeartbeats 4000000 in
set_option maxRecDepth 100000 in
theorem keep_has {w : World} {i : Ids} {st : PS} {own : Nat → Nat} (h : SysC w i st own) (r : Ref) (hr : RefOk r) (s : ByteArray) (hm : (mget st.kept r).isSome = true) :
    Calls Tryz.prog 83 #[.pointer (some ⟨i.p, 0, none⟩), .agg #[.int .i64 r.place, .string r.sum], .string s] w (PT i w own st (.tuple #[])) := by
  obtain ⟨h0, k0⟩ := h.box0 (.cells #[.int .i64 r.place, .string r.sum] 54)
  obtain ⟨kb, fb, rv, ov, hp, hO⟩ := h0.pg
  have hl := fun n => (show PgC ((w.alloc (.cells #[.int .i64 r.place, .string r.sum] 54)).drewN n) i kb fb rv ov st from ⟨hp.box, ⟨hp.kept.ex, hp.kept.wf⟩, ⟨hp.fresh.ex, hp.fresh.wf⟩, hp.row, hp.old, hp.p1, hp.p2, hp.p3, hp.ne⟩).look r hr.1 hr.2
  rw [hm] at hl
  have c5 := hp.box.cell 5
  have HB : Hid (Blk (w.alloc (.cells #[.int .i64 r.place, .string r.sum] 54)) w.heap.size 54 #[.int .i64 r.place, .string r.sum]) := Blk.new w 54 _
  have b0 := HB.out.cell 0
  have b1 := HB.out.cell 1
  have H0 := Lib.hid h0
  have K0 := Lib.hid k0
  clear h h0 k0 hp hO hm
  generalize (mget st.kept r).getD ⟨#[]⟩ = g at *
  go_enter Tryz.func83, Tryz.ntmps83
  go_wp2_with fail
  go_quiet (fail)
  go_wp2_with fail
  refine bodyPost_ret (results_none rfl _ _ _) rfl ?_
  exact ⟨rfl, H0.out.drew K0.out _⟩
/-! ### A slice of the call's own, from its second element on -/
theorem Mid.tail_ {w : World} {B : Nat} {e T : TypeId} {size : Nat} {v : Value} {n : Nat} {xs : List Value} (hu : Tryz.prog.underlying T = some (.slice e)) (hs : (Tryz.prog.info? e).map (·.size) = some size) (h : Mid w B e size v n xs) (hn : 1 ≤ n) :
    ∃ v', (∀ w, (Instr.slice T v (some (.int .i64 1)) none none).run Tryz.prog w = .ok v' w) ∧ (∀ w', Mid w' B e size v n xs → Mid w' B e size v' (n - 1) (xs.drop size)) ∧ v'.ownBlock = v.ownBlock ∧ ∃ A c, v' = .slice A (n - 1) c := by
  rcases h.2 with ⟨_, hz⟩ | ⟨g, off, cap, cur, rfl, hb, hh, hnc, _⟩
  · omega
  · refine ⟨.slice (if cap = 1 then some ⟨g, off, none⟩ else (some (⟨g, off, none⟩ : Addr)).map (·.add (1 * size))) (n - 1) (cap - 1), fun w => ?_, fun w' hm => ?_, ?_, _, _, rfl⟩
    · cases hi : Tryz.prog.info? e with
      | none => rw [hi] at hs; cases hs
      | some i =>
        rw [hi] at hs
        simp only [Option.map_some, Option.some.injEq] at hs
        have h1 : (0 : Int) ≤ 1 ∧ (1 : Int) ≤ (n : Int) := ⟨by omega, by omega⟩
        simp [Instr.slice, run_underlying hu, Instr.sliceBounds, Instr.sliceBound, asIntOf, sizeOf, typeInfo, hi, hs, h1]
    · simpa using hm.drop (k := 1) hn
    · by_cases hc : cap = 1
      · rw [if_pos hc]; rfl
      · rw [if_neg hc]
        show some ((⟨g, off, none⟩ : Addr).add (1 * size)).block = some g
        rw [block_of_add]
/-- The cells of such a slice that is not empty. -/
theorem Mid.open_ {w : World} {B : Nat} {e : TypeId} {size : Nat} {v : Value} {n : Nat} {xs : List Value} (h : Mid w B e size v n xs) (hn : 1 ≤ n) :
    ∃ g off cap, v = .slice (some ⟨g, off, none⟩) n cap ∧ ∀ j u, xs[j]? = some u → w.cell? ⟨g, off + j, none⟩ = some u := by
  rcases h.2 with ⟨_, hz⟩ | ⟨g, off, cap, cur, rfl, hb, hh, hnc, hcm, hcs, ht⟩
  · omega
  · refine ⟨g, off, cap, rfl, fun j u hu => ?_⟩
    rw [hh.cell, ← Array.getElem?_toList]
    rw [← ht, List.getElem?_take] at hu
    split at hu
    · rwa [List.getElem?_drop] at hu
    · cases hu
theorem refs_len (l : List Ref) : (refs l).length = l.length * 2 := by
  unfold refs
  induction l with
  | nil => rfl
  | cons a l ih => rw [List.flatMap_cons, List.length_append, ih, List.length_cons]; simp [Ref.cells]; omega
theorem refs_app (a b : List Ref) : refs (a ++ b) = refs a ++ refs b := by simp [refs]
theorem refs_one (l : List Ref) : ∀ u ∈ refs l, u.oneCell' = true := by
  intro u hu
  obtain ⟨r, _, hr⟩ := List.mem_flatMap.1 hu
  simp [Ref.cells] at hr
  rcases hr with rfl | rfl <;> rfl
theorem refs_drop (r : Ref) (l : List Ref) : (refs (r :: l)).drop 2 = refs l := rfl
section
variable {w w1 w' : World} {i : Ids} {kb fb : Nat} {rv ov v : Value} {st : PS}
theorem PgC.drewN (h : PgC w i kb fb rv ov st) (n : Nat) : PgC (w.drewN n) i kb fb rv ov st := h.only (S := []) ((Only.refl w []).drewN n) (fun _ _ hm => by cases hm)
theorem PgC.drew (h : PgC w i kb fb rv ov st) : PgC w.drew i kb fb rv ov st := h.only (S := []) ((Only.refl w []).drew) (fun _ _ hm => by cases hm)
theorem PgC.alloc (h : PgC w i kb fb rv ov st) (o : Obj) : PgC (w.alloc o) i kb fb rv ov st := h.only (S := []) ((Only.refl w []).alloc o) (fun _ _ hm => by cases hm)
theorem PgC.kr (h : PgC w i kb fb rv ov st) : rv.ownBlock ≠ some kb := fun e => by
  obtain ⟨_, cur, hc⟩ := h.row.block kb e
  exact h.kept.ne_blk hc rfl
theorem PgC.ko (h : PgC w i kb fb rv ov st) : ov.ownBlock ≠ some kb := fun e => by
  obtain ⟨_, cur, hc⟩ := h.old.block kb e
  exact h.kept.ne_blk hc rfl
theorem PgC.fr (h : PgC w i kb fb rv ov st) : rv.ownBlock ≠ some fb := fun e => by
  obtain ⟨_, cur, hc⟩ := h.row.block fb e
  exact h.fresh.ne_blk hc rfl
theorem PgC.fo (h : PgC w i kb fb rv ov st) : ov.ownBlock ≠ some fb := fun e => by
  obtain ⟨_, cur, hc⟩ := h.old.block fb e
  exact h.fresh.ne_blk hc rfl
theorem PgC.pr (h : PgC w i kb fb rv ov st) : rv.ownBlock ≠ some i.p := h.row.ne_blk h.box (by decide)
theorem PgC.po (h : PgC w i kb fb rv ov st) : ov.ownBlock ≠ some i.p := h.old.ne_blk h.box (by decide)
theorem PgC.kp (h : PgC w i kb fb rv ov st) : kb ≠ i.p := h.kept.ne_blk h.box
theorem PgC.fp (h : PgC w i kb fb rv ov st) : fb ≠ i.p := h.fresh.ne_blk h.box
theorem PgC.ro (h : PgC w i kb fb rv ov st) (g : Nat) (h1 : rv.ownBlock = some g) : ov.ownBlock ≠ some g := fun h2 => by
  obtain ⟨_, c1, a⟩ := h.row.block g h1
  obtain ⟨_, c2, b⟩ := h.old.block g h2
  exact Blk.ne_ a b (by decide) rfl
/-- The map of pages alone is turned. -/
theorem PgC.rekept (h : PgC w i kb fb rv ov st) {m : List (Ref × ByteArray)} (hk : MapR Tryz.prog 54 Ref.v Value.string w' kb m) (ho : Only w w' [kb]) : PgC w' i kb fb rv ov { st with kept := m } :=
  ⟨ho.blk h.box (by simpa using h.kp.symm), hk, h.fresh.only ho (by simpa using h.ne.symm), h.row.only ho (fun g hg e => by rw [List.mem_singleton] at e; subst e; exact h.kr hg), h.old.only ho (fun g hg e => by rw [List.mem_singleton] at e; subst e; exact h.ko hg), h.p1, h.p2, h.p3, h.ne⟩
theorem PgC.put (h : PgC w i kb fb rv ov st) (r : Ref) (s : ByteArray) (hr : RefOk r) :
    ∃ w', (Instr.mapUpdate 123 (.map (some kb)) (.agg #[.int .i64 r.place, .string r.sum]) (.string s)).run Tryz.prog w = .ok () w' ∧ PgC w' i kb fb rv ov { st with kept := mput st.kept r s } ∧ Only w w' [kb] := by
  obtain ⟨w', h1, h2, h3, _⟩ := h.kept.store K54 refv_inj Tryz.underlying123 r s (key54 hr.1 hr.2)
  exact ⟨w', h1, h.rekept h2 h3, h3⟩
theorem PgC.cut (h : PgC w i kb fb rv ov st) (ty : TypeId) (r : Ref) (hr : RefOk r) :
    ∃ w', (Builtin.delete_ #[123, 54] ty #[.map (some kb), .agg #[.int .i64 r.place, .string r.sum]]).run Tryz.prog w = .ok (.tuple #[]) w' ∧ PgC w' i kb fb rv ov { st with kept := mdel st.kept r } ∧ Only w w' [kb] := by
  obtain ⟨w', h1, h2, h3, _⟩ := h.kept.drop (ty := ty) K54 refv_inj Tryz.underlying123 r (key54 hr.1 hr.2)
  exact ⟨w', h1, h.rekept h2 h3, h3⟩
/-- The row behind an append (slot 6 is not written yet). -/
theorem PgC.push (h : PgC w i kb fb rv ov st) {r : Ref} (hm : Mid w1 1 54 2 v (st.row.length + 1) (refs st.row ++ r.cells)) (hg : w.grownBy w1 rv.ownBlock) :
    ∃ A cap, v = .slice A (st.row.length + 1) cap ∧ w1.cell? ⟨i.p, 6, none⟩ = some rv ∧ w1.frozen? ⟨i.p, 6, none⟩ = false ∧
      PgC (w1.setCell ⟨i.p, 6, none⟩ v) i kb fb v ov { st with row := st.row ++ [r] } ∧ Only w (w1.setCell ⟨i.p, 6, none⟩ v) (pfp i.p kb fb rv ov) := by
  have hO : Only w w1 rv.ownBlock.toList := Only.of_grown hg (fun g e => by simp [e])
  have hbox : Blk w1 i.p 126 _ := hO.blk h.box (by simpa using fun e => h.pr e)
  have hkept := h.kept.only hO (by simpa using fun e => h.kr e)
  have hfresh := h.fresh.only hO (by simpa using fun e => h.fr e)
  have hold := h.old.only hO (fun g hg hx => by
    have : rv.ownBlock = some g := by simpa using hx
    exact h.ro g this hg)
  obtain ⟨A, cap, rfl, _, _, _⟩ := hm.form
  have hS : Only w1 (w1.setCell ⟨i.p, 6, none⟩ (.slice A (st.row.length + 1) cap)) [i.p] := (Only.refl w1 [i.p]).setCell (List.mem_singleton.2 rfl) _
  refine ⟨A, cap, rfl, hbox.cell 6, hbox.frozen 6, ⟨?_, hkept.only hS (by simpa using h.kp), hfresh.only hS (by simpa using h.fp), ?_, ?_, h.p1, h.p2, h.p3, h.ne⟩, ?_⟩
  · exact hbox.set_ 6 _
  · have := hm.only hS (fun g hg e => by
      rw [List.mem_singleton] at e
      subst e
      exact hm.ne_blk hbox (by decide) hg)
    simpa [refs] using this
  · exact hold.only hS (fun g hg e => by
      rw [List.mem_singleton] at e
      subst e
      exact h.po hg)
  · exact (hO.mono (by intro x hx; simp only [pfp, List.mem_cons, List.mem_append]; exact .inr (.inr (.inr (.inl hx))))).setCell (by simp [pfp]) _
/-- Slot 6 is written anew: a slice in the same block. -/
theorem PgC.rerow (h : PgC w i kb fb rv ov st) {l : List Ref} (hm : Mid w 1 54 2 v l.length (refs l)) : PgC (w.setCell ⟨i.p, 6, none⟩ v) i kb fb v ov { st with row := l } ∧ Only w (w.setCell ⟨i.p, 6, none⟩ v) [i.p] := by
  have hS : Only w (w.setCell ⟨i.p, 6, none⟩ v) [i.p] := (Only.refl w [i.p]).setCell (List.mem_singleton.2 rfl) _
  refine ⟨⟨h.box.set_ 6 _, h.kept.only hS (by simpa using h.kp), h.fresh.only hS (by simpa using h.fp), ?_, ?_, h.p1, h.p2, h.p3, h.ne⟩, hS⟩
  · exact hm.only hS (fun g hg e => by rw [List.mem_singleton] at e; subst e; exact hm.ne_blk h.box (by decide) hg)
  · exact h.old.only hS (fun g hg e => by rw [List.mem_singleton] at e; subst e; exact h.po hg)
end
def PS.keep1 (st : PS) (r : Ref) (s : ByteArray) : PS := { st with kept := mput st.kept r s, row := st.row ++ [r] }
def PS.keep2 (st : PS) (r : Ref) (l : List Ref) : PS := { st with kept := mdel st.kept r, row := l }
/-- A page is kept. -/
def PS.keep (st : PS) (r : Ref) (s : ByteArray) : PS :=
  if (mget st.kept r).isSome then st else if st.row.length + 1 ≤ st.most then st.keep1 r s else (st.keep1 r s).keep2 ((st.row ++ [r]).headD r) ((st.row ++ [r]).tail)

end Go.Proofs.YtimpjlnbbdfehaaGreatDoor
namespace Go.Proofs.YtimpjlnbbdfehaaGreatDoor
open Go.RowKit Go.Shelf Go.Lib Go.Sort
set_option linter.unusedVariables false
attribute [local go_sem ↓] shr_32_1 shl_32_1 shr_32_2 shl_32_2 shr_32_3 shl_32_3 shr_32_4 shl_32_4 shr_32_5 shl_32_5 shr_32_6 shl_32_6 shr_32_7 shl_32_7 shr_32_8 shl_32_8 shr_32_9 shl_32_9 shr_32_10 shl_32_10 shr_32_11 shl_32_11 shr_32_12 shl_32_12 shr_32_13 shl_32_13 shr_32_14 shl_32_14 shr_32_15 shl_32_15 shr_32_16 shl_32_16 shr_32_17 shl_32_17 shr_32_18 shl_32_18 shr_32_19 shl_32_19 shr_32_20 shl_32_20 shr_32_21 shl_32_21 shr_32_22 shl_32_22 shr_32_23 shl_32_23 shr_32_24 shl_32_24 shr_32_25 shl_32_25 shr_32_26 shl_32_26 shr_32_27 shl_32_27 shr_32_28 shl_32_28 shr_32_29 shl_32_29 shr_32_30 shl_32_30 shr_32_31 shl_32_31 shr_64_3 shl_64_3 shr_64_7 shl_64_7 shr_64_8 shl_64_8 shr_64_16 shl_64_16 shr_64_24 shl_64_24 shr_64_32 shl_64_32 shr_64_40 shl_64_40 shr_64_48 shl_64_48 shr_64_56 shl_64_56
attribute [local go_sem] add_u32 add_u64 and_u8 or_u8 xor_u8 and_u32 or_u32 xor_u32 and_u64 or_u64 xor_u64 conv_32_8 conv_64_8 conv_64_32 conv_8_32 conv_8_64 conv_32_64


theorem info54f : (Tryz.prog.info? 54).map (fun i => (i.zero, i.size, i.bytes)) = some (some (.agg #[.int .i64 0, .string ⟨#[]⟩]), 2, 24) := by kernel_rfl
theorem row_two (w : World) (t : TypeId) (u v : Value) : Row (w.alloc (.cells #[u, v] t)) (some ⟨w.heap.size, 0, none⟩) [u, v] := row_cells w [u, v] t
theorem PS.keep_new1 {st : PS} {r : Ref} {s : ByteArray} (hm : (mget st.kept r).isSome = false) (hl : st.row.length + 1 ≤ st.most) : st.keep r s = st.keep1 r s := by unfold PS.keep; rw [if_neg (by simp [hm]), if_pos hl]
theorem PS.keep_new2 {st : PS} {r : Ref} {s : ByteArray} (hm : (mget st.kept r).isSome = false) (hl : ¬ st.row.length + 1 ≤ st.most) : st.keep r s = (st.keep1 r s).keep2 ((st.row ++ [r]).headD r) ((st.row ++ [r]).tail) := by unfold PS.keep; rw [if_neg (by simp [hm]), if_neg hl]
theorem fresh_pfp {w : World} {p kb fb : Nat} {rv v ov : Value} (h : v.ownBlock = rv.ownBlock ∨ ∃ g, v.ownBlock = some g ∧ w.heap.size ≤ g) : Fresh w (pfp p kb fb rv ov) (pfp p kb fb v ov) := by
  intro x hx
  simp only [pfp, List.mem_cons, List.mem_append, Option.mem_toList] at hx ⊢
  rcases hx with rfl | rfl | rfl | hx | hx
  · exact .inl (.inl rfl)
  · exact .inl (.inr (.inl rfl))
  · exact .inl (.inr (.inr (.inl rfl)))
  · rcases h with h | ⟨g, hg, hl⟩
    · exact .inl (.inr (.inr (.inr (.inl (by rw [← h]; exact hx)))))
    · rw [hg] at hx
      injection hx with hx
      exact .inr (by rw [← hx]; exact hl)
  · exact .inl (.inr (.inr (.inr (.inr hx))))
set_option maxHeartbeats 8000000 in
set_option maxRecDepth 100000 in
theorem keep_new {w : World} {i : Ids} {st : PS} {own : Nat → Nat} (h : SysC w i st own) (r : Ref) (hr : RefOk r) (s : ByteArray) (hm : (mget st.kept r).isSome = false) (hl : st.row.length ≤ 1000000) (hall : ∀ x ∈ st.row, RefOk x) :
    Calls Tryz.prog 83 #[.pointer (some ⟨i.p, 0, none⟩), .agg #[.int .i64 r.place, .string r.sum], .string s] w (PT i w own (st.keep r s) (.tuple #[])) := by
  obtain ⟨h0, k0⟩ := h.box0 (.cells #[.int .i64 r.place, .string r.sum] 54)
  obtain ⟨kb, fb, rv, ov, hp, hO⟩ := h0.pg
  have hlk := fun n => (hp.drewN n).look r hr.1 hr.2
  rw [hm] at hlk
  have c5 := hp.box.cell 5
  have HB : Hid (Blk (w.alloc (.cells #[.int .i64 r.place, .string r.sum] 54)) w.heap.size 54 #[.int .i64 r.place, .string r.sum]) := Blk.new w 54 _
  have b0 := HB.out.cell 0
  have b1 := HB.out.cell 1
  have z0 : mark w own 0 w.heap.size = 0 := mark_new (Nat.le_refl _)
  have hgn : ∀ x ∈ pfp i.p kb fb rv ov, x ≠ w.heap.size := fun x hx e => by have := hO x hx; rw [e, z0] at this; cases this
  have HFIN : Hid (∀ st' w' kb fb rv' ov', st'.d = st.d → st'.v = st.v → st'.b = st.b → st'.s = st.s → PgC w' i kb fb rv' ov' st' → Only (w.alloc (.cells #[.int .i64 r.place, .string r.sum] 54)) w' (pfp i.p kb fb rv ov) → Fresh (w.alloc (.cells #[.int .i64 r.place, .string r.sum] 54)) (pfp i.p kb fb rv ov) (pfp i.p kb fb rv' ov') → True) := fun _ _ _ _ _ _ _ _ _ _ _ _ _ => trivial
  have HEND : Hid (∀ st' w' rv', st'.d = st.d → st'.v = st.v → st'.b = st.b → st'.s = st.s → PgC w' i kb fb rv' ov st' → Only (w.alloc (.cells #[.int .i64 r.place, .string r.sum] 54)) w' (pfp i.p kb fb rv ov) → Fresh (w.alloc (.cells #[.int .i64 r.place, .string r.sum] 54)) (pfp i.p kb fb rv ov) (pfp i.p kb fb rv' ov) → ∃ own', SysC w' i st' own' ∧ Keeps w w' own own') := fun st' w' rv' e1 e2 e3 e4 hp' ho hf => by
    obtain ⟨a, b⟩ := h0.pg_step e1 e2 e3 e4 hO hp.lt hp' ho hf
    exact ⟨_, a, k0.trans b⟩
  have HP := Lib.hid hp
  have HR := Lib.hid hr
  have HM := Lib.hid hm
  have HL := Lib.hid hl
  have HALL := Lib.hid hall
  have HGN := Lib.hid hgn
  clear h h0 k0 hp hO hm z0 hgn hl hall HFIN hr
  generalize (mget st.kept r).getD ⟨#[]⟩ = g at *
  go_enter Tryz.func83, Tryz.ntmps83
  go_wp2_with fail
  go_quiet (fail)
  clear hlk
  have HP1 := Lib.hid (HP.out.drewN nq)
  have HO1 := Lib.hid ((Only.refl (w.alloc (.cells #[.int .i64 r.place, .string r.sum] 54)) (pfp i.p kb fb rv ov)).drewN nq)
  have HB1 := Lib.hid (HB.out.drewN nq)
  have c5' := HP1.out.box.cell 5
  have b0' := HB1.out.cell 0
  have b1' := HB1.out.cell 1
  clear c5 b0 b1 HP HB
  generalize hw0 : w.alloc (.cells #[.int .i64 r.place, .string r.sum] 54) = w0 at *
  generalize w0.drewN nq = w1 at *
  go_wp2_with fail
  obtain ⟨w3, hrun, hp3, ho3⟩ := HP1.out.drew.put r s HR.out
  refine wp_region_plan (fun w' => w'.cell? ⟨i.p, 5, none⟩ = some (.map (some kb)) ∧ w'.cell? ⟨w.heap.size, 0, none⟩ = some (.int .i64 r.place) ∧ w'.cell? ⟨w.heap.size, 1, none⟩ = some (.string r.sum)) 6 [(true, 0), (true, 1), (true, 2), (true, 3), (true, 4), (true, 5)] (by kernel_rfl) (by kernel_rfl) ⟨c5', b0', b1'⟩ ?_
  simp only [List.map_cons, List.map_nil, List.getD_cons_zero, List.getD_cons_succ, List.drop_succ_cons, List.drop_zero]
  (refine plan_take (v := ?_) rfl ?_ ?_; rotate_left; (intro wS hSw; (try dsimp only at hSw); go_simp; try with_reducible rfl); simp only [Act.put, List.setIfInBounds_toArray, List.set_cons_zero, List.set_cons_succ])
  (refine plan_take (v := ?_) rfl ?_ ?_; rotate_left; (intro wS hSw; (try dsimp only at hSw); go_simp; try with_reducible rfl); simp only [Act.put, List.setIfInBounds_toArray, List.set_cons_zero, List.set_cons_succ])
  (refine plan_take (v := ?_) rfl ?_ ?_; rotate_left; (intro wS hSw; (try dsimp only at hSw); go_simp; try with_reducible rfl); simp only [Act.put, List.setIfInBounds_toArray, List.set_cons_zero, List.set_cons_succ])
  (refine plan_take (v := ?_) rfl ?_ ?_; rotate_left; (intro wS hSw; (try dsimp only at hSw); go_simp; try with_reducible rfl); simp only [Act.put, List.setIfInBounds_toArray, List.set_cons_zero, List.set_cons_succ])
  (refine plan_take (v := ?_) rfl ?_ ?_; rotate_left; (intro wS hSw; (try dsimp only at hSw); go_simp; try with_reducible rfl); simp only [Act.put, List.setIfInBounds_toArray, List.set_cons_zero, List.set_cons_succ])
  (refine plan_take (v := ?_) rfl ?_ ?_; rotate_left; (intro wS hSw; (try dsimp only at hSw); go_simp; try with_reducible rfl); simp only [Act.put, List.setIfInBounds_toArray, List.set_cons_zero, List.set_cons_succ])
  refine plan_nil ?_
  go_wp2_with fail
  refine NoPanic.normal ?_
  clear c5' b0' b1'
  have HGB : Hid (w.heap.size ∉ [kb]) := fun hx => HGN.out kb (by simp [pfp]) (by rw [List.mem_singleton] at hx; exact hx.symm)
  have HP3 := Lib.hid hp3
  have HO3 := Lib.hid (HO1.out.drew.trans (ho3.mono (by simp [pfp])))
  have HB3 := Lib.hid (ho3.blk HB1.out.drew HGB.out)
  clear hp3 ho3 hrun HP1 HO1 HB1
  have c6 := HP3.out.drew.box.cell 6
  have b0 := HB3.out.drew.cell 0
  have b1 := HB3.out.drew.cell 1
  obtain ⟨i54, hi54, hz0, hz1, hz2⟩ := info_parts info54f
  have HRL : Hid (st.row.length + 1 ≤ 1000001) := by have := HL.out; show _ ≤ _; omega
  go_wp2_with fail
  refine wp_region_plan (fun w' => w'.cell? ⟨i.p, 6, none⟩ = some rv ∧ w'.cell? ⟨w.heap.size, 0, none⟩ = some (.int .i64 r.place) ∧ w'.cell? ⟨w.heap.size, 1, none⟩ = some (.string r.sum)) 8 [(true, 0), (true, 1), (true, 2), (true, 3), (true, 4), (true, 5), (false, 6), (false, 7)] (by kernel_rfl) (by kernel_rfl) ⟨c6, b0, b1⟩ ?_
  simp only [List.map_cons, List.map_nil, List.getD_cons_zero, List.getD_cons_succ, List.drop_succ_cons, List.drop_zero]
  (refine plan_take (v := ?_) rfl ?_ ?_; rotate_left; (intro wS hSw; (try dsimp only at hSw); go_simp; try with_reducible rfl); simp only [Act.put, List.setIfInBounds_toArray, List.set_cons_zero, List.set_cons_succ])
  (refine plan_take (v := ?_) rfl ?_ ?_; rotate_left; (intro wS hSw; (try dsimp only at hSw); go_simp; try with_reducible rfl); simp only [Act.put, List.setIfInBounds_toArray, List.set_cons_zero, List.set_cons_succ])
  (refine plan_take (v := ?_) rfl ?_ ?_; rotate_left; (intro wS hSw; (try dsimp only at hSw); go_simp; try with_reducible rfl); simp only [Act.put, List.setIfInBounds_toArray, List.set_cons_zero, List.set_cons_succ])
  (refine plan_take (v := ?_) rfl ?_ ?_; rotate_left; (intro wS hSw; (try dsimp only at hSw); go_simp; try with_reducible rfl); simp only [Act.put, List.setIfInBounds_toArray, List.set_cons_zero, List.set_cons_succ])
  (refine plan_take (v := ?_) rfl ?_ ?_; rotate_left; (intro wS hSw; (try dsimp only at hSw); go_simp; try with_reducible rfl); simp only [Act.put, List.setIfInBounds_toArray, List.set_cons_zero, List.set_cons_succ])
  (refine plan_take (v := ?_) rfl ?_ ?_; rotate_left; (intro wS hSw; (try dsimp only at hSw); go_simp; try with_reducible rfl); simp only [Act.put, List.setIfInBounds_toArray, List.set_cons_zero, List.set_cons_succ])
  refine plan_run rfl (fun K hK => ?_)
  go_simp
  refine hK.out _ _ ⟨(HP3.out.drew.alloc _).box.cell 6, (HB3.out.drew.alloc _).cell 0, (HB3.out.drew.alloc _).cell 1⟩ ?_
  clear hK K
  try simp only [Act.put, List.setIfInBounds_toArray, List.set_cons_zero, List.set_cons_succ]
  refine plan_run rfl (fun K hK => ?_)
  refine wp_append_mid _ (.tmp 28) (.tmp 30) 100 rfl 1 54 i54 (.agg #[.int .i64 0, .string ⟨#[]⟩]) 2 24 Tryz.underlying100 hi54 hz0 hz1 hz2 rfl (by decide) _ _ _ rfl (HP3.out.row.drew.alloc _) (some ⟨w3.heap.size, 0, none⟩) 1 1 [.int .i64 r.place, .string r.sum] rfl rfl (row_two _ _ _ _) (by simp [Value.oneCell']) (by have := HRL.out; simp only [maxLen]; omega) (by have := HRL.out; show (st.row.length + 1) * 24 ≤ _; omega) (by simp) ?_
  intro v4 w4 hm4 hg4 ho4
  obtain ⟨A, cap, rfl, e2, e3, hp5, ho5⟩ := (HP3.out.drew.alloc (.cells #[.int .i64 r.place, .string r.sum] 54)).push (r := r) hm4 hg4
  have hb4 : Blk w4 w.heap.size 54 #[.int .i64 r.place, .string r.sum] := (Only.of_grown hg4 (S := rv.ownBlock.toList) (fun g e => Option.mem_toList.2 e)).blk (HB3.out.drew.alloc _) (fun hx => HGN.out _ (by simp only [pfp, List.mem_cons, List.mem_append]; exact .inr (.inr (.inr (.inl hx)))) rfl)
  have HB4 := Lib.hid hb4
  have HP5 := Lib.hid hp5
  have HO5 := Lib.hid ((HO3.out.drew.alloc _).trans ho5)
  have HF5 : Hid (Fresh w0 (pfp i.p kb fb rv ov) (pfp i.p kb fb (.slice A (st.row.length + 1) cap) ov)) := fresh_pfp (ho4.imp id fun e => ⟨_, e, by have := HO3.out.size; simp; omega⟩)
  refine hK.out _ _ ⟨e2, hb4.cell 0, hb4.cell 1⟩ ?_
  clear hK K hm4 hg4 ho4 hp5 ho5 hb4
  try simp only [Act.put, List.setIfInBounds_toArray, List.set_cons_zero, List.set_cons_succ]
  refine plan_nil ?_
  go_wp2_with fail
  refine NoPanic.normal ?_
  generalize w4.setCell ⟨i.p, 6, none⟩ (.slice A (st.row.length + 1) cap) = w5 at *
  clear e2 e3 c6 b0 b1 HB4 HB3 HO3 HP3
  have HK1 : Hid ((st.keep1 r s) = { ({ st with kept := mput st.kept r s } : PS) with row := st.row ++ [r] }) := rfl
  have c6 := HP5.out.box.cell 6
  have c4 := HP5.out.box.cell 4
  have HFR : Hid (st.row.length ≤ 1000000) := HL.out
  by_cases hle : st.row.length + 1 ≤ st.most
  · have hd : decide ((st.most : Int) < (st.row.length : Int) + 1) = false := by simp; omega
    have HKN := Lib.hid (PS.keep_new1 (s := s) HM.out hle)
    go_wp2_with fail
    go_quiet (fail)
    go_wp2_with fail
    go_end0
    exact ⟨rfl, by rw [HKN.out]; exact HEND.out _ _ _ rfl rfl rfl rfl (HP5.out.drewN nq) (HO5.out.drewN nq) HF5.out⟩
  · have hd : decide ((st.most : Int) < (st.row.length : Int) + 1) = true := by simp; omega
    have HKN := Lib.hid (PS.keep_new2 (s := s) HM.out hle)
    obtain ⟨hd0, tl, hrow⟩ : ∃ hd0 tl, st.row ++ [r] = hd0 :: tl := by
      cases st.row with
      | nil => exact ⟨r, [], rfl⟩
      | cons a l => exact ⟨a, l ++ [r], rfl⟩
    have hok : RefOk hd0 := by
      have hmem : hd0 ∈ st.row ++ [r] := by rw [hrow]; exact List.mem_cons_self
      rcases List.mem_append.1 hmem with h1 | h1
      · exact HALL.out _ h1
      · rw [List.mem_singleton] at h1; rw [h1]; exact HR.out
    have hlen : st.row.length + 1 = tl.length + 1 := by
      have := congrArg List.length hrow
      simpa using this
    rw [hrow] at HKN
    have hp5 := HP5.out
    rw [hrow] at hp5
    have hr5 := hp5.row
    obtain ⟨g2, off, cap2, hv, hcs⟩ := hr5.open_ (by simp)
    injection hv with hA hln hcap
    clear hln hcap
    subst hA
    have q0 : w5.cell? ⟨g2, off, none⟩ = some (.int .i64 hd0.place) := hcs 0 _ rfl
    have q1 : w5.cell? ⟨g2, off + 1, none⟩ = some (.string hd0.sum) := hcs 1 _ rfl
    have HP6 := Lib.hid hp5
    have HRW := Lib.hid hrow
    have HLN := Lib.hid hlen
    have HOK := Lib.hid hok
    have c5 := hp5.box.cell 5
    clear hp5 hr5 hcs hrow hlen hok
    go_wp2_with fail
    go_quiet (fail)
    go_wp2_with fail
    have c5' := (HP6.out.drewN nq).box.cell 5
    have c6' := (HP6.out.drewN nq).box.cell 6
    have q0' : (w5.drewN nq).cell? ⟨g2, off, none⟩ = some (.int .i64 hd0.place) := q0
    have q1' : (w5.drewN nq).cell? ⟨g2, off + 1, none⟩ = some (.string hd0.sum) := q1
    obtain ⟨w7, hrun, hp7, ho7⟩ := (HP6.out.drewN (nq + 1)).cut 0 hd0 HOK.out
    have HP7 := Lib.hid hp7
    have HO7 := Lib.hid ((HO5.out.drewN (nq + 1)).trans (ho7.mono (by simp [pfp])))
    clear hp7 ho7 c5 c6 q0 q1 c4
    refine wp_region_plan (fun w' => w'.cell? ⟨i.p, 5, none⟩ = some (.map (some kb)) ∧ w'.cell? ⟨i.p, 6, none⟩ = some (.slice (some ⟨g2, off, none⟩) (st.row.length + 1) cap) ∧ w'.cell? ⟨g2, off, none⟩ = some (.int .i64 hd0.place) ∧ w'.cell? ⟨g2, off + 1, none⟩ = some (.string hd0.sum)) 10 [(true, 0), (true, 1), (true, 2), (true, 3), (true, 4), (true, 5), (true, 6), (true, 7), (true, 8), (true, 9)] (by kernel_rfl) (by kernel_rfl) ⟨c5', c6', q0', q1'⟩ ?_
    simp only [List.map_cons, List.map_nil, List.getD_cons_zero, List.getD_cons_succ, List.drop_succ_cons, List.drop_zero]
    (refine plan_take (v := ?_) rfl ?_ ?_; rotate_left; (intro wS hSw; (try dsimp only at hSw); go_simp; try with_reducible rfl); simp only [Act.put, List.setIfInBounds_toArray, List.set_cons_zero, List.set_cons_succ])
    (refine plan_take (v := ?_) rfl ?_ ?_; rotate_left; (intro wS hSw; (try dsimp only at hSw); go_simp; try with_reducible rfl); simp only [Act.put, List.setIfInBounds_toArray, List.set_cons_zero, List.set_cons_succ])
    (refine plan_take (v := ?_) rfl ?_ ?_; rotate_left; (intro wS hSw; (try dsimp only at hSw); go_simp; try with_reducible rfl); simp only [Act.put, List.setIfInBounds_toArray, List.set_cons_zero, List.set_cons_succ])
    (refine plan_take (v := ?_) rfl ?_ ?_; rotate_left; (intro wS hSw; (try dsimp only at hSw); go_simp; try with_reducible rfl); simp only [Act.put, List.setIfInBounds_toArray, List.set_cons_zero, List.set_cons_succ])
    (refine plan_take (v := ?_) rfl ?_ ?_; rotate_left; (intro wS hSw; (try dsimp only at hSw); go_simp; try with_reducible rfl); simp only [Act.put, List.setIfInBounds_toArray, List.set_cons_zero, List.set_cons_succ])
    (refine plan_take (v := ?_) rfl ?_ ?_; rotate_left; (intro wS hSw; (try dsimp only at hSw); go_simp; try with_reducible rfl); simp only [Act.put, List.setIfInBounds_toArray, List.set_cons_zero, List.set_cons_succ])
    (refine plan_take (v := ?_) rfl ?_ ?_; rotate_left; (intro wS hSw; (try dsimp only at hSw); go_simp; try with_reducible rfl); simp only [Act.put, List.setIfInBounds_toArray, List.set_cons_zero, List.set_cons_succ])
    (refine plan_take (v := ?_) rfl ?_ ?_; rotate_left; (intro wS hSw; (try dsimp only at hSw); go_simp; try with_reducible rfl); simp only [Act.put, List.setIfInBounds_toArray, List.set_cons_zero, List.set_cons_succ])
    (refine plan_take (v := ?_) rfl ?_ ?_; rotate_left; (intro wS hSw; (try dsimp only at hSw); go_simp; try with_reducible rfl); simp only [Act.put, List.setIfInBounds_toArray, List.set_cons_zero, List.set_cons_succ])
    (refine plan_take (v := ?_) rfl ?_ ?_; rotate_left; (intro wS hSw; (try dsimp only at hSw); go_simp; try with_reducible rfl); simp only [Act.put, List.setIfInBounds_toArray, List.set_cons_zero, List.set_cons_succ])
    refine plan_nil ?_
    go_wp2_with fail
    refine NoPanic.normal ?_
    clear c5' c6' q0' q1' hrun
    generalize (Value.slice (some ⟨g2, off, none⟩) (st.row.length + 1) cap) = V at *
    obtain ⟨v', hsl, hmid, hob, A2, c2, hv2⟩ := HP7.out.row.tail_ Tryz.underlying100 info54 (by simp)
    have c6 := HP7.out.box.cell 6
    have f6 := HP7.out.box.frozen 6
    have hm8 := hmid _ HP7.out.row
    have hm9 : Mid w7 1 54 2 v' tl.length (refs tl) := hm8
    obtain ⟨hp8, ho8⟩ := HP7.out.rerow hm9
    have HP8 := Lib.hid hp8
    have HO8 := Lib.hid (HO7.out.trans (ho8.mono pfp_p))
    have HF8 : Hid (Fresh w0 (pfp i.p kb fb rv ov) (pfp i.p kb fb v' ov)) := fun x hx => HF5.out x (by
      rw [pfp, hob] at hx
      exact hx)
    clear hmid hm8 hm9 hp8 ho8 hob
    have hv3 : v' = .slice A2 tl.length c2 := hv2
    clear hv2
    subst hv3
    go_wp2_with fail
    go_end0
    exact ⟨rfl, by rw [HKN.out]; exact HEND.out _ _ _ rfl rfl rfl rfl HP8.out HO8.out HF8.out⟩
theorem keep_ok {w : World} {i : Ids} {st : PS} {own : Nat → Nat} (h : SysC w i st own) (r : Ref) (hr : RefOk r) (s : ByteArray) (hl : st.row.length ≤ 1000000) (hall : ∀ x ∈ st.row, RefOk x) :
    Calls Tryz.prog 83 #[.pointer (some ⟨i.p, 0, none⟩), .agg #[.int .i64 r.place, .string r.sum], .string s] w (PT i w own (st.keep r s) (.tuple #[])) := by
  cases hm : (mget st.kept r).isSome
  · exact keep_new h r hr s hm hl hall
  · have := keep_has h r hr s hm
    rwa [show st.keep r s = st from if_pos hm]

end Go.Proofs.YtimpjlnbbdfehaaGreatDoor
namespace Go.Proofs.YtimpjlnbbdfehaaGreatDoor
open Go.RowKit Go.Shelf Go.Lib Go.Sort
set_option linter.unusedVariables false
attribute [local go_sem ↓] shr_32_1 shl_32_1 shr_32_2 shl_32_2 shr_32_3 shl_32_3 shr_32_4 shl_32_4 shr_32_5 shl_32_5 shr_32_6 shl_32_6 shr_32_7 shl_32_7 shr_32_8 shl_32_8 shr_32_9 shl_32_9 shr_32_10 shl_32_10 shr_32_11 shl_32_11 shr_32_12 shl_32_12 shr_32_13 shl_32_13 shr_32_14 shl_32_14 shr_32_15 shl_32_15 shr_32_16 shl_32_16 shr_32_17 shl_32_17 shr_32_18 shl_32_18 shr_32_19 shl_32_19 shr_32_20 shl_32_20 shr_32_21 shl_32_21 shr_32_22 shl_32_22 shr_32_23 shl_32_23 shr_32_24 shl_32_24 shr_32_25 shl_32_25 shr_32_26 shl_32_26 shr_32_27 shl_32_27 shr_32_28 shl_32_28 shr_32_29 shl_32_29 shr_32_30 shl_32_30 shr_32_31 shl_32_31 shr_64_3 shl_64_3 shr_64_7 shl_64_7 shr_64_8 shl_64_8 shr_64_16 shl_64_16 shr_64_24 shl_64_24 shr_64_32 shl_64_32 shr_64_40 shl_64_40 shr_64_48 shl_64_48 shr_64_56 shl_64_56
attribute [local go_sem] add_u32 add_u64 and_u8 or_u8 xor_u8 and_u32 or_u32 xor_u32 and_u64 or_u64 xor_u64 conv_32_8 conv_64_8 conv_64_32 conv_8_32 conv_8_64 conv_32_64

/-- What must be so of a pager's numbers, none of which is above n. -/
structure PS.okN (st : PS) (n : Nat) : Prop where
  dl : st.d.sure.length ≤ 100000
  drow : st.d.row.length ≤ st.d.acts
  dall : ∀ x ∈ st.d.sure, x.size = 512
  dnall : ∀ p ∈ st.d.now, p.2.size = 512
  acts : st.d.acts ≤ n
  key : st.v.key.size ≤ 900000
  reads : st.reads ≤ n
  hits : st.hits ≤ n
  row : st.row.length ≤ n
  rows : ∀ x ∈ st.row, RefOk x
  old : st.old.length ≤ n
  sl : st.s.taken.length = st.d.sure.length
  sf : 0 ≤ st.s.first
  m0 : 0 ≤ st.s.many
  m1 : st.s.many ≤ n
theorem PS.okN.ok {st : PS} {n : Nat} (h : st.okN n) (hn : n ≤ 900000) : st.ok := ⟨⟨h.dl, h.drow, by have := h.acts; omega, h.dall, h.dnall⟩, h.key, by have := h.reads; omega⟩
theorem PS.okN.mono {st : PS} {n m : Nat} (h : st.okN n) (hm : n ≤ m) : st.okN m :=
  ⟨h.dl, h.drow, h.dall, h.dnall, Nat.le_trans h.acts hm, h.key, Nat.le_trans h.reads hm, Nat.le_trans h.hits hm, Nat.le_trans h.row hm, h.rows, Nat.le_trans h.old hm, h.sl, h.sf, h.m0, by have := h.m1; omega⟩
/-- The least place that is free. -/
def SpS.free (s : SpS) : Option Nat := (List.range s.taken.length).find? fun k => decide (s.first ≤ (k : Int)) && !(s.taken.getD k false)
theorem SpS.free_some {s : SpS} {K : Nat} (h : s.free = some K) : s.first ≤ K ∧ K < s.taken.length ∧ s.taken.getD K false = false ∧ ∀ j : Nat, s.first ≤ j → j < K → s.taken.getD j false = true := by
  unfold SpS.free at h
  have h1 := List.find?_some h
  have h2 := List.mem_of_find?_eq_some h
  simp at h1 h2
  refine ⟨h1.1, h2, by simpa using h1.2, fun j hj hK => ?_⟩
  rw [List.find?_range_eq_some] at h
  have h3 := h.2.2 j hK
  cases hg : s.taken.getD j false
  · rw [hg] at h3; simp at h3; omega
  · rfl
theorem SpS.free_none {s : SpS} (h : s.free = none) : ∀ j : Nat, s.first ≤ j → j < s.taken.length → s.taken.getD j false = true := by
  intro j hj hl
  unfold SpS.free at h
  rw [List.find?_eq_none] at h
  have h3 := h j (by simpa using hl)
  cases hg : s.taken.getD j false
  · rw [hg] at h3; simp at h3; omega
  · rfl
def SpS.take (s : SpS) (K : Nat) : SpS := ⟨s.taken.set K true, s.first, s.many + 1⟩
def SpS.drop (s : SpS) (K : Nat) : SpS := ⟨s.taken.set K false, s.first, s.many - 1⟩
section
variable {w : World} {i : Ids} {st : PS} {own : Nat → Nat} {n : Nat}
theorem ptake_none (h : SysC w i st own) (ok : st.okN n) (hn : n ≤ 900000) (hf : st.s.free = none) (hfl : st.s.first ≤ st.s.taken.length) :
    Calls Tryz.prog 81 #[.pointer (some ⟨i.s, 0, none⟩)] w fun e w' => e = .returned (.int .i64 (-1)) ∧ w = w' := by
  obtain ⟨sb, hs, _⟩ := h.space
  have h0 := ok.sf
  have hl : st.s.taken.length < 1000000 := by have := ok.dl; have := ok.sl; omega
  have e : st.s.first = ((st.s.first.toNat : Nat) : Int) := by omega
  rw [e] at hs
  exact sp_take_none st.s.first.toNat hs (by omega) hl (fun j hj => SpS.free_none hf j (by omega))
theorem ptake_some (h : SysC w i st own) (ok : st.okN n) (hn : n ≤ 900000) {K : Nat} (hf : st.s.free = some K) :
    Calls Tryz.prog 81 #[.pointer (some ⟨i.s, 0, none⟩)] w (PT i w own { st with s := st.s.take K } (.int .i64 (K : Int))) := by
  obtain ⟨sb, hs, o1, o2, p1, p2⟩ := h.space
  have h0 := ok.sf
  have hl : st.s.taken.length < 1000000 := by have := ok.dl; have := ok.sl; omega
  obtain ⟨f1, f2, f3, f4⟩ := SpS.free_some hf
  have e : st.s.first = ((st.s.first.toNat : Nat) : Int) := by omega
  have hs' := hs
  rw [e] at hs'
  refine (sp_take_some st.s.first.toNat K hs' (by omega) f2 hl (fun j h1 h2 => f4 j (by omega) h2) f3 ok.m0 (by have := ok.m1; omega)).mono fun e' w' ⟨he, h1, h2⟩ => ⟨he, _, h.space_step hs o1 o2 p1 p2 (s' := st.s.take K) ?_ h2⟩
  rw [← e] at h1
  exact h1
theorem SysC.c10 (h : SysC w i st own) : ∃ fb, w.cell? ⟨i.p, 10, none⟩ = some (.map (some fb)) ∧ ∀ K x, I64 K → ∃ w', (Instr.mapUpdate 124 (.map (some fb)) (.int .i64 K) (.bool x)).run Tryz.prog w = .ok () w' ∧ ∃ own', SysC w' i { st with fresh := mput st.fresh K x } own' ∧ Keeps w w' own own' := by
  obtain ⟨kb, fb, rv, ov, hp, hO⟩ := h.pg
  refine ⟨fb, hp.box.cell 10, fun K x hK => ?_⟩
  obtain ⟨w', h1, h2, h3, _⟩ := hp.fresh.store K3 ki_inj Tryz.underlying124 K x (key3 hK)
  refine ⟨w', h1, _, h.pg_step (st' := { st with fresh := mput st.fresh K x }) rfl rfl rfl rfl hO hp.lt (F := pfp i.p kb fb rv ov) (kb := kb) (fb := fb) (rv := rv) (ov := ov) ⟨h3.blk hp.box (by simpa using hp.fp.symm), hp.kept.only h3 (by simpa using hp.ne), h2, hp.row.only h3 (fun g hg e => by rw [List.mem_singleton] at e; subst e; exact hp.fr hg), hp.old.only h3 (fun g hg e => by rw [List.mem_singleton] at e; subst e; exact hp.fo hg), hp.p1, hp.p2, hp.p3, hp.ne⟩ (h3.mono (by simp [pfp])) (fun x hx => .inl hx)⟩
end
/-- A new page: what is left, its reference, an error. -/
def PS.write (st : PS) (t : ByteArray) : PS × Ref × Int :=
  match st.s.free with
  | none => (st, ⟨-1, ⟨#[]⟩⟩, 5)
  | some K =>
    let st2 := ({ st with s := st.s.take K } : PS).lay (K : Int) t
    let r : Ref := ⟨(K : Int), sumB (({ st with s := st.s.take K } : PS).block (K : Int) t)⟩
    (({ st2 with fresh := mput st2.fresh (K : Int) true } : PS).keep r t, r, 0)
theorem PS.lay_rows (st : PS) (n : Int) (t : ByteArray) : (st.lay n t).row = st.row ∧ (st.lay n t).fresh = st.fresh ∧ (st.lay n t).kept = st.kept ∧ (st.lay n t).s = st.s ∧ (st.lay n t).old = st.old := ⟨rfl, rfl, rfl, rfl, rfl⟩

end Go.Proofs.YtimpjlnbbdfehaaGreatDoor
namespace Go.Proofs.YtimpjlnbbdfehaaGreatDoor
open Go.RowKit Go.Shelf Go.Lib Go.Sort
set_option linter.unusedVariables false
attribute [local go_sem ↓] shr_32_1 shl_32_1 shr_32_2 shl_32_2 shr_32_3 shl_32_3 shr_32_4 shl_32_4 shr_32_5 shl_32_5 shr_32_6 shl_32_6 shr_32_7 shl_32_7 shr_32_8 shl_32_8 shr_32_9 shl_32_9 shr_32_10 shl_32_10 shr_32_11 shl_32_11 shr_32_12 shl_32_12 shr_32_13 shl_32_13 shr_32_14 shl_32_14 shr_32_15 shl_32_15 shr_32_16 shl_32_16 shr_32_17 shl_32_17 shr_32_18 shl_32_18 shr_32_19 shl_32_19 shr_32_20 shl_32_20 shr_32_21 shl_32_21 shr_32_22 shl_32_22 shr_32_23 shl_32_23 shr_32_24 shl_32_24 shr_32_25 shl_32_25 shr_32_26 shl_32_26 shr_32_27 shl_32_27 shr_32_28 shl_32_28 shr_32_29 shl_32_29 shr_32_30 shl_32_30 shr_32_31 shl_32_31 shr_64_3 shl_64_3 shr_64_7 shl_64_7 shr_64_8 shl_64_8 shr_64_16 shl_64_16 shr_64_24 shl_64_24 shr_64_32 shl_64_32 shr_64_40 shl_64_40 shr_64_48 shl_64_48 shr_64_56 shl_64_56
attribute [local go_sem] add_u32 add_u64 and_u8 or_u8 xor_u8 and_u32 or_u32 xor_u32 and_u64 or_u64 xor_u64 conv_32_8 conv_64_8 conv_64_32 conv_8_32 conv_8_64 conv_32_64

theorem mk_off {a b c : World} {i : Ids} {st : PS} {o o1 : Nat → Nat} (h : SysC b i st o1) (k : Keeps a b o o1) (g : Nat) (z : o1 g = 0) (g0 : g ≠ 0) (hg : a.heap.size ≤ g) (ho : Only b c [g]) : SysC c i st (mark b o1 0) ∧ Keeps a c o (mark b o1 0) :=
  h.off k ho (fun x hx => by rw [List.mem_singleton] at hx; subst hx; exact ⟨z, g0, hg⟩)
/-- Two boxes of the call's own, beside all of theirs; the second one is written. -/
structure Two (w w' : World) (i : Ids) (st : PS) (own : Nat → Nat) (g : Nat) (t : TypeId) (z cs : Array Value) (own' : Nat → Nat) : Prop where
  sys : SysC w' i st own'
  kp : Keeps w w' own own'
  b0 : Blk w' g t z
  b1 : Blk w' (g + 1) t cs
  z0 : own' g = 0
  z1 : own' (g + 1) = 0
theorem two_boxes {w : World} {i : Ids} {st : PS} {own : Nat → Nat} (h : SysC w i st own) (t : TypeId) (z y cs : Array Value) :
    ∃ own', Two w (((w.alloc (.cells z t)).alloc (.cells y t)).setRow (w.heap.size + 1) cs) i st own w.heap.size t z cs own' := by
  obtain ⟨h0, k0⟩ := h.box0 (.cells z t)
  obtain ⟨h1, k1⟩ := h0.box0 (.cells y t)
  have hs := h.salts.1
  have e : (w.alloc (.cells z t)).heap.size = w.heap.size + 1 := by simp
  have z1 : mark (w.alloc (.cells z t)) (mark w own 0) 0 (w.heap.size + 1) = 0 := mark_new (by omega)
  have z0 : mark (w.alloc (.cells z t)) (mark w own 0) 0 w.heap.size = 0 := by rw [mark_old (by omega)]; exact mark_new (Nat.le_refl _)
  obtain ⟨h2, k2⟩ := mk_off h1 (k0.trans k1) (w.heap.size + 1) z1 (by omega) (by omega) (c := ((w.alloc (.cells z t)).alloc (.cells y t)).setRow (w.heap.size + 1) cs) (only_setRow (Only.refl _ _) (List.mem_singleton.2 rfl) cs)
  refine ⟨_, h2, k2, ((Blk.new w t z).alloc _).farRow (by omega) _, (blk_new1 w _ t y).row cs, ?_, ?_⟩
  · rw [mark_old (by simp; omega)]; exact z0
  · rw [mark_old (by simp)]; exact z1
theorem Two.step {w w1 w2 : World} {i : Ids} {st st2 : PS} {own o1 o2 : Nat → Nat} {g : Nat} {t : TypeId} {z cs : Array Value} (h : Two w w1 i st own g t z cs o1) (hs : SysC w2 i st2 o2) (hk : Keeps w1 w2 o1 o2) : Two w w2 i st2 own g t z cs o2 :=
  ⟨hs, h.kp.trans hk, hk.blk h.b0 h.z0, hk.blk h.b1 h.z1, (hk.same _ h.b0.lt).trans h.z0, (hk.same _ h.b1.lt).trans h.z1⟩
/-- The first box is written at last. -/
theorem Two.fin {w w1 : World} {i : Ids} {st : PS} {own o1 : Nat → Nat} {g : Nat} {t : TypeId} {z cs : Array Value} (h : Two w w1 i st own g t z cs o1) (hg : w.heap.size ≤ g) (h0 : 0 < w.heap.size) (ds : Array Value) : ∃ own', SysC (w1.setRow g ds) i st own' ∧ Keeps w (w1.setRow g ds) own own' :=
  h.sys.one h.kp h.z0 (by omega) hg ds
theorem zero54 : (Tryz.prog.info? 54).map (·.zero) = some (some (.agg #[.int .i64 0, .string ⟨#[]⟩])) := by kernel_rfl
set_option maxHeartbeats 4000000 in
set_option maxRecDepth 100000 in
theorem write_none {w : World} {i : Ids} {st : PS} {own : Nat → Nat} {n : Nat} (h : SysC w i st own) (ok : st.okN n) (hn : n ≤ 900000) (hfl : st.s.first ≤ st.s.taken.length) (hf : st.s.free = none) (t : ByteArray) (ht : t.size ≤ 462) :
    Calls Tryz.prog 28 #[.pointer (some ⟨i.p, 0, none⟩), .string t] w (PT i w own st (.tuple #[.agg #[.int .i64 (-1), .string ⟨#[]⟩], .int .i64 5])) := by
  have hA : Blk ((w.alloc (.cells #[.int .i64 0, .string ⟨#[]⟩] 54)).alloc (.cells #[.int .i64 0, .string ⟨#[]⟩] 54)) (w.heap.size + 1) 54 #[.int .i64 0, .string ⟨#[]⟩] := blk_new1 w _ 54 _
  obtain ⟨own1, h1⟩ := two_boxes h 54 #[.int .i64 0, .string ⟨#[]⟩] #[.int .i64 0, .string ⟨#[]⟩] #[.int .i64 (-1), .string ⟨#[]⟩]
  have HT := Lib.hid (ptake_none h1.sys ok hn hf hfl)
  have c3 := h1.sys.c3
  have hd : decide ((462 : Int) < (t.size : Int)) = false := by simp; omega
  have HF := Lib.hid (h1.fin (Nat.le_refl _) h.salts.1 #[.int .i64 (-1), .string ⟨#[]⟩])
  have H1 := Lib.hid h1
  have HA := Lib.hid hA
  clear h ok hn hfl hf ht h1 hA
  go_enter Tryz.func28, Tryz.ntmps28
  go_wp2_with (first
    | (refine wpList_store_row rfl 54 (.tmp 6) (.tmp 12) (by rfl) (w.heap.size + 1) #[.int .i64 (-1), .string ⟨#[]⟩] (by rfl) (by rfl) 54 _ HA.out info54 (by rfl) (by simp [Value.oneCell']) ?_; generalize ((w.alloc (.cells #[.int .i64 0, .string ⟨#[]⟩] 54)).alloc (.cells #[.int .i64 0, .string ⟨#[]⟩] 54)).setRow (w.heap.size + 1) #[.int .i64 (-1), .string ⟨#[]⟩] = w1 at *)
    | ((with_reducible refine HT.out.mono ?_); rintro e w' ⟨rfl, rfl⟩)
    | (refine wpList_load_row rfl 54 (.tmp 6) (by rfl) (w.heap.size + 1) (by rfl) 54 #[.int .i64 (-1), .string ⟨#[]⟩] (0, 0) _ H1.out.b1 Tryz.underlying54 rfl info54 ?_)
    | (refine wpList_store_row rfl 54 (.tmp 4) (.tmp 28) (by rfl) w.heap.size #[.int .i64 (-1), .string ⟨#[]⟩] (by rfl) (by rfl) 54 _ H1.out.b0 info54 (by rfl) (by simp [Value.oneCell']) ?_))
  refine bodyPost_ret (results_cell_tmp (fn := Tryz.f28) rfl _ _ w.heap.size #[.int .i64 (-1), .string ⟨#[]⟩] (by rfl) (run_loadVar_row _ _ _ _ _ _ _ (H1.out.b0.row _) Tryz.underlying54 rfl info54)) rfl ?_
  exact ⟨rfl, HF.out⟩

end Go.Proofs.YtimpjlnbbdfehaaGreatDoor
namespace Go.Proofs.YtimpjlnbbdfehaaGreatDoor
open Go.RowKit Go.Shelf Go.Lib Go.Sort
set_option linter.unusedVariables false
attribute [local go_sem ↓] shr_32_1 shl_32_1 shr_32_2 shl_32_2 shr_32_3 shl_32_3 shr_32_4 shl_32_4 shr_32_5 shl_32_5 shr_32_6 shl_32_6 shr_32_7 shl_32_7 shr_32_8 shl_32_8 shr_32_9 shl_32_9 shr_32_10 shl_32_10 shr_32_11 shl_32_11 shr_32_12 shl_32_12 shr_32_13 shl_32_13 shr_32_14 shl_32_14 shr_32_15 shl_32_15 shr_32_16 shl_32_16 shr_32_17 shl_32_17 shr_32_18 shl_32_18 shr_32_19 shl_32_19 shr_32_20 shl_32_20 shr_32_21 shl_32_21 shr_32_22 shl_32_22 shr_32_23 shl_32_23 shr_32_24 shl_32_24 shr_32_25 shl_32_25 shr_32_26 shl_32_26 shr_32_27 shl_32_27 shr_32_28 shl_32_28 shr_32_29 shl_32_29 shr_32_30 shl_32_30 shr_32_31 shl_32_31 shr_64_3 shl_64_3 shr_64_7 shl_64_7 shr_64_8 shl_64_8 shr_64_16 shl_64_16 shr_64_24 shl_64_24 shr_64_32 shl_64_32 shr_64_40 shl_64_40 shr_64_48 shl_64_48 shr_64_56 shl_64_56
attribute [local go_sem] add_u32 add_u64 and_u8 or_u8 xor_u8 and_u32 or_u32 xor_u32 and_u64 or_u64 xor_u64 conv_32_8 conv_64_8 conv_64_32 conv_8_32 conv_8_64 conv_32_64

theorem one_box {w : World} {i : Ids} {st : PS} {own : Nat → Nat} (h : SysC w i st own) (t : TypeId) (y cs : Array Value) :
    ∃ own', SysC ((w.alloc (.cells y t)).setRow w.heap.size cs) i st own' ∧ Keeps w ((w.alloc (.cells y t)).setRow w.heap.size cs) own own' ∧ Blk ((w.alloc (.cells y t)).setRow w.heap.size cs) w.heap.size t cs ∧ own' w.heap.size = 0 := by
  obtain ⟨h0, k0⟩ := h.box0 (.cells y t)
  have hs := h.salts.1
  have z0 : mark w own 0 w.heap.size = 0 := mark_new (Nat.le_refl _)
  obtain ⟨h2, k2⟩ := mk_off h0 k0 w.heap.size z0 (by omega) (Nat.le_refl _) (c := (w.alloc (.cells y t)).setRow w.heap.size cs) (only_setRow (Only.refl _ _) (List.mem_singleton.2 rfl) cs)
  exact ⟨_, h2, k2, (Blk.new w t y).row cs, by rw [mark_old (by simp)]; exact z0⟩
set_option maxHeartbeats 4000000 in
set_option maxRecDepth 100000 in
theorem write_some {w : World} {i : Ids} {st : PS} {own : Nat → Nat} {n : Nat} (h : SysC w i st own) (ok : st.okN n) (hn : n ≤ 900000) {K : Nat} (hf : st.s.free = some K) (t : ByteArray) (ht : t.size ≤ 462) :
    Calls Tryz.prog 28 #[.pointer (some ⟨i.p, 0, none⟩), .string t] w (PT i w own (st.write t).1 (.tuple #[(st.write t).2.1.v, .int .i64 0])) := by
  have hA : Blk ((w.alloc (.cells #[.int .i64 0, .string ⟨#[]⟩] 54)).alloc (.cells #[.int .i64 0, .string ⟨#[]⟩] 54)) (w.heap.size + 1) 54 #[.int .i64 0, .string ⟨#[]⟩] := blk_new1 w _ 54 _
  obtain ⟨own1, h1⟩ := two_boxes h 54 #[.int .i64 0, .string ⟨#[]⟩] #[.int .i64 0, .string ⟨#[]⟩] #[.int .i64 (-1), .string ⟨#[]⟩]
  have HT := Lib.hid (ptake_some h1.sys ok hn hf)
  have c3 := h1.sys.c3
  have hd : decide ((462 : Int) < (t.size : Int)) = false := by simp; omega
  obtain ⟨f1, f2, f3, f4⟩ := SpS.free_some hf
  have hKd : K < st.d.sure.length := by rw [← ok.sl]; exact f2
  have hKI : I64 (K : Int) := i64_nat hKd ok.dl
  have hneg : decide ((K : Int) < 0) = false := by simp
  have oks : st.ok := ok.ok hn
  have HL := Lib.hid (fun w2 own2 (h2 : SysC w2 i { st with s := st.s.take K } own2) => lay_ok h2 ⟨oks.d, oks.key, oks.reads⟩ K hKd t ht)
  have HKP := Lib.hid (fun w5 own5 (h5 : SysC w5 i { ({ st with s := st.s.take K } : PS).lay (K : Int) t with fresh := mput st.fresh (K : Int) true } own5) => keep_ok h5 ⟨(K : Int), sumB (({ st with s := st.s.take K } : PS).block (K : Int) t)⟩ ⟨hKI, by show (sumB _).size ≤ maxLen; rw [sumB_size]; simp [maxLen]⟩ t (by have := ok.row; show st.row.length ≤ 1000000; omega) ok.rows)
  have HWR : Hid (st.write t = ((({ ({ st with s := st.s.take K } : PS).lay (K : Int) t with fresh := mput st.fresh (K : Int) true } : PS).keep ⟨(K : Int), sumB (({ st with s := st.s.take K } : PS).block (K : Int) t)⟩ t), ⟨(K : Int), sumB (({ st with s := st.s.take K } : PS).block (K : Int) t)⟩, 0)) := by
    show st.write t = _
    unfold PS.write
    rw [hf]
    rfl
  have HW0 := Lib.hid h.salts.1
  have H1 := Lib.hid h1
  have HA := Lib.hid hA
  have HKI := Lib.hid hKI
  clear h ok hn hf ht h1 hA f1 f2 f3 f4 hKd oks hKI
  rw [HWR.out]
  dsimp only
  unfold Ref.v Ref.cells
  dsimp only
  generalize ({ st with s := st.s.take K } : PS).block (K : Int) t = x at *
  generalize sumB x = sx at *
  go_enter Tryz.func28, Tryz.ntmps28
  go_wp2_with (first
    | (refine wpList_store_row rfl 54 (.tmp 6) (.tmp 12) (by rfl) (w.heap.size + 1) #[.int .i64 (-1), .string ⟨#[]⟩] (by rfl) (by rfl) 54 _ HA.out info54 (by rfl) (by simp [Value.oneCell']) ?_; generalize ((w.alloc (.cells #[.int .i64 0, .string ⟨#[]⟩] 54)).alloc (.cells #[.int .i64 0, .string ⟨#[]⟩] 54)).setRow (w.heap.size + 1) #[.int .i64 (-1), .string ⟨#[]⟩] = w1 at *)
    | fail)
  refine HT.out.mono ?_
  rintro e w2 ⟨rfl, own2, h2, k2⟩
  have H2 := Lib.hid (H1.out.step h2 k2)
  clear h2 k2 HT H1 HA c3
  go_wp2_with fail
  refine (HL.out _ _ H2.out.sys).mono ?_
  rintro e w3 ⟨rfl, own3, h3, k3⟩
  have H3 := Lib.hid (H2.out.step h3 k3)
  clear h3 k3 HL H2
  have HA3 : Hid (Blk (w3.alloc (.cells #[.int .i64 0, .string ⟨#[]⟩] 54)) w3.heap.size 54 #[.int .i64 0, .string ⟨#[]⟩]) := Blk.new w3 54 _
  obtain ⟨own4, h4, k4, b4, z4⟩ := one_box H3.out.sys 54 #[.int .i64 0, .string ⟨#[]⟩] #[.int .i64 (K : Int), .string sx]
  have H4 := Lib.hid (H3.out.step h4 k4)
  obtain ⟨fb, c10, hst⟩ := h4.c10
  obtain ⟨w5, hrun, own5, h5, k5⟩ := hst (K : Int) true HKI.out
  have H5 := Lib.hid (H4.out.step h5 k5)
  have B4 := Lib.hid b4
  have B5 := Lib.hid (k5.blk b4 z4)
  have Z5 := Lib.hid ((k5.same _ b4.lt).trans z4)
  clear h4 k4 b4 z4 hst h5 k5 H3 H4
  go_wp2_with (first
    | (refine wpList_store_row rfl 54 (.tmp 11) (.tmp 49) (by rfl) w3.heap.size #[.int .i64 (K : Int), .string sx] (by rfl) (by rfl) 54 _ HA3.out info54 (by rfl) (by simp [Value.oneCell']) ?_; generalize (w3.alloc (.cells #[.int .i64 0, .string ⟨#[]⟩] 54)).setRow w3.heap.size #[.int .i64 (K : Int), .string sx] = w4 at *)
    | (refine wpList_load_row rfl 54 (.tmp 11) (by rfl) w3.heap.size (by rfl) 54 #[.int .i64 (K : Int), .string sx] (0, 0) _ B5.out Tryz.underlying54 rfl info54 ?_)
    | fail)
  refine (HKP.out _ _ H5.out.sys).mono ?_
  rintro e w6 ⟨rfl, own6, h6, k6⟩
  have H6 := Lib.hid (H5.out.step h6 k6)
  have B6 := Lib.hid (k6.blk B5.out Z5.out)
  clear h6 k6 HKP H5 B5 Z5 hrun c10 HA3 B4
  have HF := Lib.hid (H6.out.fin (Nat.le_refl _) HW0.out #[.int .i64 (K : Int), .string sx])
  go_wp2_with (first
    | (refine wpList_load_row rfl 54 (.tmp 11) (by rfl) w3.heap.size (by rfl) 54 #[.int .i64 (K : Int), .string sx] (0, 0) _ B6.out Tryz.underlying54 rfl info54 ?_)
    | (refine wpList_store_row rfl 54 (.tmp 4) (.tmp 59) (by rfl) w.heap.size #[.int .i64 (K : Int), .string sx] (by rfl) (by rfl) 54 _ H6.out.b0 info54 (by rfl) (by simp [Value.oneCell']) ?_))
  refine bodyPost_ret (results_cell_tmp (fn := Tryz.f28) rfl _ _ w.heap.size #[.int .i64 (K : Int), .string sx] (by rfl) (run_loadVar_row _ _ _ _ _ _ _ (H6.out.b0.row _) Tryz.underlying54 rfl info54)) rfl ?_
  exact ⟨rfl, HF.out⟩

end Go.Proofs.YtimpjlnbbdfehaaGreatDoor
namespace Go.Proofs.YtimpjlnbbdfehaaGreatDoor
open Go.RowKit Go.Shelf Go.Lib Go.Sort
set_option linter.unusedVariables false
attribute [local go_sem ↓] shr_32_1 shl_32_1 shr_32_2 shl_32_2 shr_32_3 shl_32_3 shr_32_4 shl_32_4 shr_32_5 shl_32_5 shr_32_6 shl_32_6 shr_32_7 shl_32_7 shr_32_8 shl_32_8 shr_32_9 shl_32_9 shr_32_10 shl_32_10 shr_32_11 shl_32_11 shr_32_12 shl_32_12 shr_32_13 shl_32_13 shr_32_14 shl_32_14 shr_32_15 shl_32_15 shr_32_16 shl_32_16 shr_32_17 shl_32_17 shr_32_18 shl_32_18 shr_32_19 shl_32_19 shr_32_20 shl_32_20 shr_32_21 shl_32_21 shr_32_22 shl_32_22 shr_32_23 shl_32_23 shr_32_24 shl_32_24 shr_32_25 shl_32_25 shr_32_26 shl_32_26 shr_32_27 shl_32_27 shr_32_28 shl_32_28 shr_32_29 shl_32_29 shr_32_30 shl_32_30 shr_32_31 shl_32_31 shr_64_3 shl_64_3 shr_64_7 shl_64_7 shr_64_8 shl_64_8 shr_64_16 shl_64_16 shr_64_24 shl_64_24 shr_64_32 shl_64_32 shr_64_40 shl_64_40 shr_64_48 shl_64_48 shr_64_56 shl_64_56
attribute [local go_sem] add_u32 add_u64 and_u8 or_u8 xor_u8 and_u32 or_u32 xor_u32 and_u64 or_u64 xor_u64 conv_32_8 conv_64_8 conv_64_32 conv_8_32 conv_8_64 conv_32_64

def PS.fetS (st : PS) (n : Int) (sum : ByteArray) : PS := if hasB n st.d.sure.length = true then st.fetchS n.toNat sum else st
def PS.fetV (st : PS) (n : Int) (sum : ByteArray) : Hd × ByteArray × ByteArray × Int := if hasB n st.d.sure.length = true then st.fetchV n.toNat sum else (hdZ, ⟨#[]⟩, ⟨#[]⟩, 1)
theorem fetch_ok {w : World} {i : Ids} {st : PS} {own : Nat → Nat} (h : SysC w i st own) (ok : st.ok) (n : Int) (sum : ByteArray) :
    Calls Tryz.prog 19 #[.pointer (some ⟨i.p, 0, none⟩), .int .i64 n, .string sum] w (PT i w own (st.fetS n sum) (fetT (st.fetV n sum))) := by
  cases hb : hasB n st.d.sure.length
  · have e1 : st.fetS n sum = st := if_neg (by simp [hb])
    have e2 : st.fetV n sum = (hdZ, ⟨#[]⟩, ⟨#[]⟩, 1) := if_neg (by simp [hb])
    rw [e1, e2]
    exact fetch_out h n hb sum
  · have e1 : st.fetS n sum = st.fetchS n.toNat sum := if_pos hb
    have e2 : st.fetV n sum = st.fetchV n.toNat sum := if_pos hb
    rw [e1, e2]
    have hb' := hb
    unfold hasB at hb'
    simp at hb'
    have hk : n.toNat < st.d.sure.length := by omega
    obtain ⟨k, rfl⟩ : ∃ k : Nat, n = (k : Int) := ⟨n.toNat, by omega⟩
    rw [Int.toNat_natCast] at hk ⊢
    by_cases hs : sum = ⟨#[]⟩
    · subst hs; exact fetch_any h ok k hk
    · by_cases he : sumB (st.d.get k) = sum
      · subst he; exact fetch_same h ok k hk
      · exact fetch_other h ok k hk sum hs he
/-- A page's bytes: what is left, they, an error. -/
def PS.read (st : PS) (r : Ref) : PS × ByteArray × Int :=
  if r.sum.size ≠ 32 then (st, ⟨#[]⟩, 1) else
  match mget st.kept r with
  | some s => ({ st with hits := st.hits + 1 }, s, 0)
  | none => if (st.fetV r.place r.sum).2.2.2 = 0 then ((st.fetS r.place r.sum).keep r (st.fetV r.place r.sum).2.1, (st.fetV r.place r.sum).2.1, 0) else (st.fetS r.place r.sum, (st.fetV r.place r.sum).2.1, (st.fetV r.place r.sum).2.2.2)
theorem pdead_ok {w : World} {i : Ids} {st : PS} {own : Nat → Nat} (h : SysC w i st own) :
    Calls Tryz.prog 68 #[.pointer (some ⟨i.d, 0, none⟩)] w fun e w' => e = .returned (.bool false) ∧ w = w' := by
  obtain ⟨F, ⟨sb, nb, rv, hF, _⟩, hO⟩ := h.disk
  exact dead_ok hF
theorem SysC.c5 {w : World} {i : Ids} {st : PS} {own : Nat → Nat} (h : SysC w i st own) : ∃ kb, w.cell? ⟨i.p, 5, none⟩ = some (.map (some kb)) ∧ ∀ r, RefOk r → ∀ n, (Instr.lookup 123 (.map (some kb)) (.agg #[.int .i64 r.place, .string r.sum]) true).run Tryz.prog (w.drewN n) = .ok (.tuple #[.string ((mget st.kept r).getD ⟨#[]⟩), .bool (mget st.kept r).isSome]) (w.drewN n) := by
  obtain ⟨kb, fb, rv, ov, hp, hO⟩ := h.pg
  exact ⟨kb, hp.box.cell 5, fun r hr n => (hp.drewN n).look r hr.1 hr.2⟩
theorem SysC.hit {w : World} {i : Ids} {st : PS} {own : Nat → Nat} (h : SysC w i st own) : w.cell? ⟨i.p, 13, none⟩ = some (.int .i64 (st.hits : Int)) ∧ ∀ v : Int, v = ((st.hits + 1 : Nat) : Int) →
    ∃ own', SysC (w.setCell ⟨i.p, 13, none⟩ (.int .i64 v)) i { st with hits := st.hits + 1 } own' ∧ Keeps w (w.setCell ⟨i.p, 13, none⟩ (.int .i64 v)) own own' := by
  obtain ⟨kb, fb, rv, ov, hp, hO⟩ := h.pg
  refine ⟨hp.box.cell 13, fun v hv => ?_⟩
  subst hv
  exact h.box_step hp hO { st with hits := st.hits + 1 } rfl rfl rfl rfl rfl rfl rfl rfl (hp.box.set_ 13 _) ((Only.refl w _).setCell (by simp) _)
set_option maxHeartbeats 2000000 in
set_option maxRecDepth 100000 in
theorem read_bad {w : World} {i : Ids} {st : PS} {own : Nat → Nat} (h : SysC w i st own) (r : Ref) (hr : r.sum.size ≠ 32) :
    Calls Tryz.prog 30 #[.pointer (some ⟨i.p, 0, none⟩), .agg #[.int .i64 r.place, .string r.sum]] w (PT i w own st (.tuple #[.string ⟨#[]⟩, .int .i64 1])) := by
  obtain ⟨h0, k0⟩ := h.box0 (.cells #[.int .i64 r.place, .string r.sum] 54)
  have HB : Hid (Blk (w.alloc (.cells #[.int .i64 r.place, .string r.sum] 54)) w.heap.size 54 #[.int .i64 r.place, .string r.sum]) := Blk.new w 54 _
  have b1 := HB.out.cell 1
  have hne : ((r.sum.size : Int) != 32) = true := by simp; omega
  have H0 := Lib.hid h0
  have K0 := Lib.hid k0
  clear h h0 k0 hr
  go_enter Tryz.func30, Tryz.ntmps30
  go_wp2
  go_ret2
  exact ⟨rfl, _, H0.out, K0.out⟩
set_option maxHeartbeats 4000000 in
set_option maxRecDepth 100000 in
theorem read_hit {w : World} {i : Ids} {st : PS} {own : Nat → Nat} (h : SysC w i st own) (hh : st.hits ≤ 1000000) (r : Ref) (hr : RefOk r) (h32 : r.sum.size = 32) (s : ByteArray) (hm : mget st.kept r = some s) :
    Calls Tryz.prog 30 #[.pointer (some ⟨i.p, 0, none⟩), .agg #[.int .i64 r.place, .string r.sum]] w (PT i w own { st with hits := st.hits + 1 } (.tuple #[.string s, .int .i64 0])) := by
  obtain ⟨h0, k0⟩ := h.box0 (.cells #[.int .i64 r.place, .string r.sum] 54)
  obtain ⟨kb, c5, hlk⟩ := h0.c5
  have hl := hlk r hr
  rw [hm] at hl
  dsimp only [Option.getD_some, Option.isSome_some] at hl
  have HB : Hid (Blk (w.alloc (.cells #[.int .i64 r.place, .string r.sum] 54)) w.heap.size 54 #[.int .i64 r.place, .string r.sum]) := Blk.new w 54 _
  have b0 := HB.out.cell 0
  have b1 := HB.out.cell 1
  have hne : ((r.sum.size : Int) != 32) = false := by simp; omega
  have H0 := Lib.hid h0
  have K0 := Lib.hid k0
  have HH := Lib.hid hh
  clear h h0 k0 hr hm hlk hh h32
  go_enter Tryz.func30, Tryz.ntmps30
  go_wp2_with fail
  go_quiet (fail)
  clear c5 b0 b1 hl
  obtain ⟨own1, h1, k1⟩ := H0.out.drew K0.out nq
  generalize (w.alloc (.cells #[.int .i64 r.place, .string r.sum] 54)).drewN nq = w1 at *
  have c0 := h1.c0
  obtain ⟨c13, hst⟩ := h1.hit
  obtain ⟨q, hq⟩ : ∃ q : Nat, q = st.hits + 1 := ⟨_, rfl⟩
  obtain ⟨own2, h2, k2⟩ := hst (q : Int) (by rw [hq])
  have hw : IntKind.i64.wrap ((st.hits : Int) + 1) = (q : Int) := by rw [hq]; exact wrap_in _ (by omega) (by have := HH.out; omega)
  have f13 := h1.f 13
  have HD := Lib.hid (pdead_ok h1)
  have H2 := Lib.hid h2
  have K2 := Lib.hid (k1.trans k2)
  clear hst h2 k2 h1 k1 hq H0 K0
  go_wp2_with ((with_reducible refine HD.out.mono ?_); rintro e w' ⟨rfl, rfl⟩)
  go_ret2
  exact ⟨rfl, _, H2.out, K2.out⟩

end Go.Proofs.YtimpjlnbbdfehaaGreatDoor
namespace Go.Proofs.YtimpjlnbbdfehaaGreatDoor
open Go.RowKit Go.Shelf Go.Lib Go.Sort
set_option linter.unusedVariables false
attribute [local go_sem ↓] shr_32_1 shl_32_1 shr_32_2 shl_32_2 shr_32_3 shl_32_3 shr_32_4 shl_32_4 shr_32_5 shl_32_5 shr_32_6 shl_32_6 shr_32_7 shl_32_7 shr_32_8 shl_32_8 shr_32_9 shl_32_9 shr_32_10 shl_32_10 shr_32_11 shl_32_11 shr_32_12 shl_32_12 shr_32_13 shl_32_13 shr_32_14 shl_32_14 shr_32_15 shl_32_15 shr_32_16 shl_32_16 shr_32_17 shl_32_17 shr_32_18 shl_32_18 shr_32_19 shl_32_19 shr_32_20 shl_32_20 shr_32_21 shl_32_21 shr_32_22 shl_32_22 shr_32_23 shl_32_23 shr_32_24 shl_32_24 shr_32_25 shl_32_25 shr_32_26 shl_32_26 shr_32_27 shl_32_27 shr_32_28 shl_32_28 shr_32_29 shl_32_29 shr_32_30 shl_32_30 shr_32_31 shl_32_31 shr_64_3 shl_64_3 shr_64_7 shl_64_7 shr_64_8 shl_64_8 shr_64_16 shl_64_16 shr_64_24 shl_64_24 shr_64_32 shl_64_32 shr_64_40 shl_64_40 shr_64_48 shl_64_48 shr_64_56 shl_64_56
attribute [local go_sem] add_u32 add_u64 and_u8 or_u8 xor_u8 and_u32 or_u32 xor_u32 and_u64 or_u64 xor_u64 conv_32_8 conv_64_8 conv_64_32 conv_8_32 conv_8_64 conv_32_64

set_option maxHeartbeats 4000000 in
set_option maxRecDepth 100000 in
theorem read_miss {w : World} {i : Ids} {st : PS} {own : Nat → Nat} {n : Nat} (h : SysC w i st own) (ok : st.okN n) (hn : n ≤ 900000) (r : Ref) (hr : RefOk r) (h32 : r.sum.size = 32) (hm : mget st.kept r = none) :
    Calls Tryz.prog 30 #[.pointer (some ⟨i.p, 0, none⟩), .agg #[.int .i64 r.place, .string r.sum]] w (PT i w own (st.read r).1 (.tuple #[.string (st.read r).2.1, .int .i64 (st.read r).2.2])) := by
  have hrd : st.read r = if (st.fetV r.place r.sum).2.2.2 = 0 then ((st.fetS r.place r.sum).keep r (st.fetV r.place r.sum).2.1, (st.fetV r.place r.sum).2.1, 0) else (st.fetS r.place r.sum, (st.fetV r.place r.sum).2.1, (st.fetV r.place r.sum).2.2.2) := by
    unfold PS.read
    rw [if_neg (by simp [h32]), hm]
  obtain ⟨h0, k0⟩ := h.box0 (.cells #[.int .i64 r.place, .string r.sum] 54)
  obtain ⟨kb, c5, hlk⟩ := h0.c5
  have hl := hlk r hr
  rw [hm] at hl
  dsimp only [Option.getD_none, Option.isSome_none] at hl
  have HB : Hid (Blk (w.alloc (.cells #[.int .i64 r.place, .string r.sum] 54)) w.heap.size 54 #[.int .i64 r.place, .string r.sum]) := Blk.new w 54 _
  have z0 : mark w own 0 w.heap.size = 0 := mark_new (Nat.le_refl _)
  have b0 := HB.out.cell 0
  have b1 := HB.out.cell 1
  have hne : ((r.sum.size : Int) != 32) = false := by simp; omega
  have HFT := Lib.hid (fun w1 own1 (h1 : SysC w1 i st own1) => fetch_ok h1 (ok.ok hn) r.place r.sum)
  have hrow : (st.fetS r.place r.sum).row = st.row := by
    unfold PS.fetS PS.fetchS
    split
    · split <;> rfl
    · rfl
  have HKP := Lib.hid (fun w5 own5 (h5 : SysC w5 i (st.fetS r.place r.sum) own5) s => keep_ok h5 r hr s (by rw [hrow]; have := ok.row; omega) (by rw [hrow]; exact ok.rows))
  have HRD := Lib.hid hrd
  have H0 := Lib.hid h0
  have K0 := Lib.hid k0
  have Z0 := Lib.hid z0
  clear h h0 k0 hr hm hlk h32 ok hn hrow hrd z0
  generalize st.fetS r.place r.sum = st2 at *
  generalize st.fetV r.place r.sum = fv at *
  obtain ⟨hd, tx, bx, er⟩ := fv
  dsimp only at HRD HFT
  unfold fetT Hd.v at HFT
  dsimp only at HFT
  have HONE := Lib.hid (hd_one hd)
  have HSZ : Hid (hd.cells.size = 3) := rfl
  generalize hd.cells = CS at *
  go_enter Tryz.func30, Tryz.ntmps30
  go_wp2_with fail
  go_quiet (fail)
  clear c5 b0 b1 hl
  obtain ⟨own1, h1, k1⟩ := H0.out.drew (Keeps.refl _ _) nq
  have HB1 := Lib.hid (k1.blk HB.out Z0.out)
  have Z1 := Lib.hid ((k1.same _ HB.out.lt).trans Z0.out)
  have K1 := Lib.hid (K0.out.trans k1)
  clear k1 H0 K0 Z0 HB
  generalize (w.alloc (.cells #[.int .i64 r.place, .string r.sum] 54)).drewN nq = w1 at *
  have b0 := HB1.out.cell 0
  have b1 := HB1.out.cell 1
  have HF := Lib.hid (HFT.out w1 own1 h1)
  clear h1 HFT
  go_wp2_with fail
  refine HF.out.mono ?_
  rintro e w2 ⟨rfl, own2, h2, k2⟩
  have HB2 := Lib.hid (k2.blk HB1.out Z1.out)
  have K2 := Lib.hid (K1.out.trans k2)
  have Z2 := Lib.hid ((k2.same _ HB1.out.lt).trans Z1.out)
  have HA2 : Hid (Blk (w2.alloc (.cells #[.int .u32 0, .int .u64 0, .int .u32 0] 36)) w2.heap.size 36 #[.int .u32 0, .int .u64 0, .int .u32 0]) := Blk.new w2 36 _
  obtain ⟨own3, h3, k3, b3, z3⟩ := one_box h2 36 #[.int .u32 0, .int .u64 0, .int .u32 0] CS
  have H3 := Lib.hid h3
  have K3 := Lib.hid (K2.out.trans k3)
  have HB3 := Lib.hid (k3.blk HB2.out Z2.out)
  clear h2 k2 h3 k3 b3 z3 HF K1 K2 Z1 HB1 b0 b1 HB2 Z2
  by_cases her : er = 0
  · subst her
    have HV := Lib.hid (HRD.out.trans (if_pos rfl))
    have HK := Lib.hid (HKP.out _ _ H3.out tx)
    have HV1 : Hid ((st.read r).1 = st2.keep r tx)    := by show _ = _; rw [HV.out]
    have HV2 : Hid ((st.read r).2.1 = tx)    := by show _ = _; rw [HV.out]
    have HV3 : Hid ((st.read r).2.2 = 0)    := by show _ = _; rw [HV.out]
    go_wp2_with (first
      | (refine wpList_store_row rfl 36 (.tmp 8) (.tmp 53) (by rfl) w2.heap.size CS (by rfl) (by rfl) 36 _ HA2.out (by rw [HSZ.out]; exact info36) (by rw [HSZ.out]; rfl) HONE.out ?_; generalize (w2.alloc (.cells #[.int .u32 0, .int .u64 0, .int .u32 0] 36)).setRow w2.heap.size CS = w3 at *)
      | (refine wpList_load_row rfl 54 (.tmp 3) (by rfl) w.heap.size (by rfl) 54 #[.int .i64 r.place, .string r.sum] (0, 0) _ HB3.out Tryz.underlying54 rfl info54 ?_)
      | fail)
    refine HK.out.mono ?_
    rintro e w4 ⟨rfl, own4, h4, k4⟩
    have H4 := Lib.hid h4
    have K4 := Lib.hid (K3.out.trans k4)
    clear h4 k4 HK HKP H3 K3
    go_wp2_with fail
    go_ret2
    exact ⟨by rw [HV2.out, HV3.out]; rfl, _, by rw [HV1.out]; exact H4.out, K4.out⟩
  · have HV := Lib.hid (HRD.out.trans (if_neg her))
    have hne : (er == 0) = false := by simp [her]
    have HV1 : Hid ((st.read r).1 = st2)    := by show _ = _; rw [HV.out]
    have HV2 : Hid ((st.read r).2.1 = tx)    := by show _ = _; rw [HV.out]
    have HV3 : Hid ((st.read r).2.2 = er)    := by show _ = _; rw [HV.out]
    go_wp2_with (first
      | (refine wpList_store_row rfl 36 (.tmp 8) (.tmp 53) (by rfl) w2.heap.size CS (by rfl) (by rfl) 36 _ HA2.out (by rw [HSZ.out]; exact info36) (by rw [HSZ.out]; rfl) HONE.out ?_; generalize (w2.alloc (.cells #[.int .u32 0, .int .u64 0, .int .u32 0] 36)).setRow w2.heap.size CS = w3 at *)
      | fail)
    go_ret2
    exact ⟨by rw [HV2.out, HV3.out]; rfl, _, by rw [HV1.out]; exact H3.out, K3.out⟩
theorem pread_ok {w : World} {i : Ids} {st : PS} {own : Nat → Nat} {n : Nat} (h : SysC w i st own) (ok : st.okN n) (hn : n ≤ 900000) (r : Ref) (hr : RefOk r) :
    Calls Tryz.prog 30 #[.pointer (some ⟨i.p, 0, none⟩), .agg #[.int .i64 r.place, .string r.sum]] w (PT i w own (st.read r).1 (.tuple #[.string (st.read r).2.1, .int .i64 (st.read r).2.2])) := by
  by_cases h32 : r.sum.size = 32
  · cases hm : mget st.kept r with
    | none => exact read_miss h ok hn r hr h32 hm
    | some s =>
      have e : st.read r = ({ st with hits := st.hits + 1 }, s, 0) := by unfold PS.read; rw [if_neg (by simp [h32]), hm]
      rw [e]
      exact read_hit h (by have := ok.hits; omega) r hr h32 s hm
  · have e : st.read r = (st, ⟨#[]⟩, 1) := by unfold PS.read; rw [if_pos h32]
    rw [e]
    exact read_bad h r h32

end Go.Proofs.YtimpjlnbbdfehaaGreatDoor
