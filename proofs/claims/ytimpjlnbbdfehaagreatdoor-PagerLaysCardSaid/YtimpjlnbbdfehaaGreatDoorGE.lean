import Derived.Test.YtimpjlnbbdfehaaGreatDoorGA
import Derived.Maps.Keyed
import Derived.Deep.OwnRows
import Derived.IntWalk
import Derived.Test.YtimpjlnbbdfehaaGreatDoorGD
import Derived.Carry
import Derived.WalkSpells
import Derived.Test.YtimpjlnbbdfehaaGreatDoorGB
import Derived.Deep.RegionWith
namespace Go.Proofs.YtimpjlnbbdfehaaGreatDoor
open Go.RowKit Go.Shelf Go.Lib Go.Sort
set_option linter.unusedVariables false
attribute [local go_sem ↓] shr_32_1 shl_32_1 shr_32_2 shl_32_2 shr_32_3 shl_32_3 shr_32_4 shl_32_4 shr_32_5 shl_32_5 shr_32_6 shl_32_6 shr_32_7 shl_32_7 shr_32_8 shl_32_8 shr_32_9 shl_32_9 shr_32_10 shl_32_10 shr_32_11 shl_32_11 shr_32_12 shl_32_12 shr_32_13 shl_32_13 shr_32_14 shl_32_14 shr_32_15 shl_32_15 shr_32_16 shl_32_16 shr_32_17 shl_32_17 shr_32_18 shl_32_18 shr_32_19 shl_32_19 shr_32_20 shl_32_20 shr_32_21 shl_32_21 shr_32_22 shl_32_22 shr_32_23 shl_32_23 shr_32_24 shl_32_24 shr_32_25 shl_32_25 shr_32_26 shl_32_26 shr_32_27 shl_32_27 shr_32_28 shl_32_28 shr_32_29 shl_32_29 shr_32_30 shl_32_30 shr_32_31 shl_32_31 shr_64_3 shl_64_3 shr_64_7 shl_64_7 shr_64_8 shl_64_8 shr_64_16 shl_64_16 shr_64_24 shl_64_24 shr_64_32 shl_64_32 shr_64_40 shl_64_40 shr_64_48 shl_64_48 shr_64_56 shl_64_56
attribute [local go_sem] add_u32 add_u64 and_u8 or_u8 xor_u8 and_u32 or_u32 xor_u32 and_u64 or_u64 xor_u64 conv_32_8 conv_64_8 conv_64_32 conv_8_32 conv_8_64 conv_32_64

set_option linter.unusedSectionVars false
/-! ### Maps: a block whose entries are, in their order, the pairs of a list -/
section
variable {κ β : Type} [DecidableEq κ]
def mget : List (κ × β) → κ → Option β
  | [], _ => none
  | p :: r, x => if p.1 = x then some p.2 else mget r x
def mput : List (κ × β) → κ → β → List (κ × β)
  | [], x, v => [(x, v)]
  | p :: r, x, v => if p.1 = x then (x, v) :: r else p :: mput r x v
def mdel : List (κ × β) → κ → List (κ × β)
  | [], _ => []
  | p :: r, x => if p.1 = x then r else p :: mdel r x
theorem mget_none {m : List (κ × β)} {x : κ} (h : ∀ p ∈ m, p.1 ≠ x) : mget m x = none := by
  induction m with
  | nil => rfl
  | cons p r ih => unfold mget; rw [if_neg (h p (by simp))]; exact ih fun q hq => h q (by simp [hq])
theorem mput_none {m : List (κ × β)} {x : κ} {v : β} (h : ∀ p ∈ m, p.1 ≠ x) : mput m x v = m ++ [(x, v)] := by
  induction m with
  | nil => rfl
  | cons p r ih => unfold mput; rw [if_neg (h p (by simp)), ih fun q hq => h q (by simp [hq])]; rfl
theorem mdel_none {m : List (κ × β)} {x : κ} (h : ∀ p ∈ m, p.1 ≠ x) : mdel m x = m := by
  induction m with
  | nil => rfl
  | cons p r ih => unfold mdel; rw [if_neg (h p (by simp)), ih fun q hq => h q (by simp [hq])]
/-- At the place of a key among keys that differ. -/
theorem m_at {m : List (κ × β)} {x : κ} {j : Nat} {p : κ × β} (hn : (m.map (·.1)).Nodup) (hj : m[j]? = some p) (hp : p.1 = x) (v : β) :
    mget m x = some p.2 ∧ mput m x v = m.set j (x, v) ∧ mdel m x = m.eraseIdx j := by
  induction m generalizing j with
  | nil => simp at hj
  | cons q r ih =>
    simp only [List.map_cons, List.nodup_cons] at hn
    cases j with
    | zero =>
      simp only [List.getElem?_cons_zero, Option.some.injEq] at hj
      subst hj
      simp [mget, mput, mdel, hp]
    | succ j =>
      simp only [List.getElem?_cons_succ] at hj
      have hne : q.1 ≠ x := fun e => hn.1 (by rw [e, ← hp]; exact List.mem_map.2 ⟨p, List.mem_of_getElem? hj, rfl⟩)
      obtain ⟨i1, i2, i3⟩ := ih hn.2 hj
      simp [mget, mput, mdel, hne, i1, i2, i3]
theorem mget_mput (m : List (κ × β)) (x y : κ) (v : β) : mget (mput m x v) y = if x = y then some v else mget m y := by
  induction m with
  | nil => simp [mput, mget]
  | cons p r ih =>
    unfold mput
    by_cases h : p.1 = x
    · rw [if_pos h]
      unfold mget
      by_cases hy : x = y
      · simp [hy]
      · simp only [hy, if_false]; rw [if_neg (by rw [h]; exact hy)]
    · rw [if_neg h]
      unfold mget
      by_cases hy : p.1 = y
      · rw [if_pos hy, if_neg (fun e => h (hy.trans e.symm)), if_pos hy]
      · rw [if_neg hy, ih, if_neg hy]
theorem mget_mem {m : List (κ × β)} {x : κ} {v : β} (h : mget m x = some v) : (x, v) ∈ m := by
  induction m with
  | nil => simp [mget] at h
  | cons p r ih =>
    unfold mget at h
    split at h
    · rename_i e; injection h with h; subst h; subst e; exact List.mem_cons_self
    · exact List.mem_cons_of_mem _ (ih h)
theorem mget_none_iff {m : List (κ × β)} {x : κ} : mget m x = none ↔ ∀ p ∈ m, p.1 ≠ x := by
  constructor
  · intro h
    induction m with
    | nil => intro p hp; cases hp
    | cons q r ih =>
      unfold mget at h
      split at h
      · cases h
      · rename_i hne
        intro p hp
        rcases List.mem_cons.1 hp with rfl | hp
        · exact hne
        · exact ih h p hp
  · exact mget_none
theorem mdel_keys (m : List (κ × β)) (x : κ) : ((mdel m x).map (·.1)).Sublist (m.map (·.1)) := by
  induction m with
  | nil => simp [mdel]
  | cons p r ih =>
    unfold mdel
    split
    · simp
    · exact ih.cons_cons _
theorem mdel_sub (m : List (κ × β)) (x : κ) : (mdel m x).Sublist m := by
  induction m with
  | nil => simp [mdel]
  | cons p r ih =>
    unfold mdel
    split
    · exact List.sublist_cons_self _ _
    · exact ih.cons_cons _
theorem mget_mdel (m : List (κ × β)) (hn : (m.map (·.1)).Nodup) (x y : κ) : mget (mdel m x) y = if x = y then none else mget m y := by
  induction m with
  | nil => simp [mdel, mget]
  | cons p r ih =>
    simp only [List.map_cons, List.nodup_cons] at hn
    unfold mdel
    by_cases h : p.1 = x
    · rw [if_pos h]
      by_cases hy : x = y
      · rw [if_pos hy]
        refine mget_none fun q hq e => hn.1 (by rw [h, hy, ← e]; exact List.mem_map.2 ⟨q, hq, rfl⟩)
      · rw [if_neg hy]
        conv => rhs; unfold mget
        rw [if_neg (by rw [h]; exact hy)]
    · rw [if_neg h]
      unfold mget
      by_cases hy : p.1 = y
      · rw [if_pos hy, if_pos hy, if_neg (fun e => h (hy.trans e.symm))]
      · rw [if_neg hy, ih hn.2, if_neg hy]
theorem mput_keys {m : List (κ × β)} {x : κ} {v : β} (hn : (m.map (·.1)).Nodup) : ((mput m x v).map (·.1)).Nodup := by
  by_cases h : ∀ p ∈ m, p.1 ≠ x
  · rw [mput_none h, List.map_append, List.nodup_append]
    refine ⟨hn, by simp, ?_⟩
    intro a ha b hb e
    obtain ⟨p, hp, rfl⟩ := List.mem_map.1 ha
    simp at hb
    exact h p hp (e.trans hb)
  · have : ∃ p ∈ m, p.1 = x := by
      apply Classical.byContradiction
      intro hc
      exact h fun p hp e => hc ⟨p, hp, e⟩
    obtain ⟨p, hp, e⟩ := this
    obtain ⟨j, hj⟩ := List.getElem?_of_mem hp
    rw [(m_at hn hj e v).2.1]
    have : (m.set j (x, v)).map (·.1) = m.map (·.1) := by
      apply List.ext_getElem?
      intro i
      rw [List.getElem?_map, List.getElem?_map, List.getElem?_set]
      split
      · rename_i hij
        subst hij
        have hl := (List.getElem?_eq_some_iff.1 hj).1
        have hm : m[j] = p := (List.getElem?_eq_some_iff.1 hj).2
        simp [hl, hm, e]
      · rfl
    rw [this]
    exact hn
theorem mput_mem {m : List (κ × β)} {x : κ} {v : β} {p : κ × β} (h : p ∈ mput m x v) : p = (x, v) ∨ p ∈ m := by
  induction m with
  | nil => simp [mput] at h; exact .inl h
  | cons q r ih =>
    unfold mput at h
    split at h
    · rcases List.mem_cons.1 h with rfl | h
      · exact .inl rfl
      · exact .inr (List.mem_cons_of_mem _ h)
    · rcases List.mem_cons.1 h with rfl | h
      · exact .inr List.mem_cons_self
      · rcases ih h with e | e
        · exact .inl e
        · exact .inr (List.mem_cons_of_mem _ e)
theorem mput_len (m : List (κ × β)) (x : κ) (v : β) : (mput m x v).length = if (mget m x).isSome then m.length else m.length + 1 := by
  induction m with
  | nil => rfl
  | cons p r ih =>
    unfold mput mget
    by_cases h : p.1 = x
    · simp [h]
    · rw [if_neg h, if_neg h]
      simp only [List.length_cons, ih]
      split <;> rfl

/-- Block b is a map of the pairs m. -/
structure MapR (P : Program) (k : TypeId) (ek : κ → Value) (ev : β → Value) (w : World) (b : Nat) (m : List (κ × β)) : Prop where
  ex : ∃ es clock, w.heap[b]? = some (.map es clock) ∧ MapKept.Stamped es clock ∧ es.toList.map (fun e => (e.key, e.val)) = m.map (fun p => (ek p.1, ev p.2))
  wf : ∀ p ∈ m, ∃ l, keyOf P k (ek p.1) = some l
variable {P : Program} {k t e : TypeId} {ek : κ → Value} {ev : β → Value} {w w' : World} {b : Nat} {m : List (κ × β)}
theorem MapR.lt (h : MapR P k ek ev w b m) : b < w.heap.size := by
  obtain ⟨es, c, hb, _⟩ := h.ex
  exact (Array.getElem?_eq_some_iff.1 hb).1
theorem MapR.kept (h : MapR P k ek ev w b m) (hk : w'.heap[b]? = w.heap[b]?) : MapR P k ek ev w' b m := by
  obtain ⟨es, c, hb, r⟩ := h.ex
  exact ⟨⟨es, c, hk.trans hb, r⟩, h.wf⟩
theorem MapR.only {S : List Nat} (h : MapR P k ek ev w b m) (ho : Only w w' S) (hS : b ∉ S) : MapR P k ek ev w' b m := h.kept (ho.block b h.lt hS)
theorem MapR.ne_blk (h : MapR P k ek ev w b m) {g : Nat} {t : TypeId} {cs : Array Value} (hb : Blk w g t cs) : b ≠ g := by
  rintro rfl
  obtain ⟨es, c, h1, _⟩ := h.ex
  unfold Blk at hb
  rw [h1] at hb
  injection hb with hb
  cases hb
theorem MapR.new (P : Program) (k : TypeId) (ek : κ → Value) (ev : β → Value) (w : World) : MapR P k ek ev (w.alloc (.map #[] 0)) w.heap.size [] :=
  ⟨⟨#[], 0, (MapKept.heap_alloc w _).1, MapKept.stamped_empty 0, rfl⟩, fun p hp => by cases hp⟩
theorem MapR.nodup (h : MapR P k ek ev w b m) : (m.map (·.1)).Nodup := by
  obtain ⟨es, c, _, hs, hm⟩ := h.ex
  have hd : es.toList.Pairwise (fun x y => x.key ≠ y.key) := ((MapKept.stamped_iff es c).1 hs).2.2
  have h1 : (es.toList.map (fun e => (e.key, e.val))).Pairwise (fun p q => p.1 ≠ q.1) := List.pairwise_map.2 hd
  rw [hm, List.pairwise_map] at h1
  exact List.pairwise_map.2 (h1.imp fun {a b} hne e => hne (by simp only; rw [e]))
/-- What the search for a key finds. -/
theorem MapR.find (K : Maps.Keyed P k) (inj : ∀ x y, ek x = ek y → x = y) (h : MapR P k ek ev w b m) {es : Array MapEntry} {c : Nat} (hb : w.heap[b]? = some (.map es c)) (x : κ) (hx : ∃ l, keyOf P k (ek x) = some l) :
    ((Instr.findKey k (ek x) es.toList).run P w = .ok none w ∧ (∀ e ∈ es.toList, e.key ≠ ek x) ∧ ∀ p ∈ m, p.1 ≠ x) ∨
    ∃ j e0 p, (Instr.findKey k (ek x) es.toList).run P w = .ok (some (j, e0.val)) w ∧ es.toList[j]? = some e0 ∧ e0.key = ek x ∧ e0.val = ev p.2 ∧ m[j]? = some p ∧ p.1 = x := by
  obtain ⟨es', c', hb', hs, hm⟩ := h.ex
  rw [hb] at hb'
  injection hb' with hb'
  injection hb' with h1 h2
  subst h1 h2
  obtain ⟨l, hl⟩ := hx
  have hkeys : ∀ e ∈ es.toList, ∃ l, keyOf P k e.key = some l := by
    intro e he
    have : (e.key, e.val) ∈ m.map (fun p => (ek p.1, ev p.2)) := by rw [← hm]; exact List.mem_map.2 ⟨e, he, rfl⟩
    obtain ⟨p, hp, ep⟩ := List.mem_map.1 this
    injection ep with e1 e2
    rw [← e1]
    exact h.wf p hp
  rcases K.find w hl es.toList hkeys with ⟨r, hne⟩ | ⟨j, e0, r, hj, hk⟩
  · refine .inl ⟨r, hne, fun p hp e => ?_⟩
    have : (ek p.1, ev p.2) ∈ es.toList.map (fun e => (e.key, e.val)) := by rw [hm]; exact List.mem_map.2 ⟨p, hp, rfl⟩
    obtain ⟨e0, he, ee⟩ := List.mem_map.1 this
    injection ee with e1 e2
    exact hne e0 he (by rw [e1, e])
  · have hj' : (m.map (fun p => (ek p.1, ev p.2)))[j]? = some (e0.key, e0.val) := by rw [← hm, List.getElem?_map, hj]; rfl
    rw [List.getElem?_map] at hj'
    cases hp : m[j]? with
    | none => rw [hp] at hj'; cases hj'
    | some p =>
      rw [hp] at hj'
      simp only [Option.map_some, Option.some.injEq, Prod.mk.injEq] at hj'
      exact .inr ⟨j, e0, p, r, hj, hk, hj'.2.symm, hp, inj _ _ (hj'.1.trans hk)⟩
/-- v, ok := m[x]. -/
theorem MapR.look2 (K : Maps.Keyed P k) (inj : ∀ x y, ek x = ek y → x = y) (ht : P.underlying t = some (.map k e)) {z : Value} (hz : (zeroValue e).run P w = .ok z w) (h : MapR P k ek ev w b m) (x : κ) (hx : ∃ l, keyOf P k (ek x) = some l) :
    (Instr.lookup t (.map (some b)) (ek x) true).run P w = .ok (.tuple #[((mget m x).map ev).getD z, .bool (mget m x).isSome]) w := by
  obtain ⟨es, c, hb, hs, hm⟩ := h.ex
  obtain ⟨l, hl⟩ := id hx
  rcases h.find K inj hb x hx with ⟨r, _, hn⟩ | ⟨j, e0, p, r, _, _, hv, hj, hp⟩
  · rw [mget_none hn]
    simp [Instr.lookup, run_underlying ht, MapKept.run_getObj_map hb, K.check w _ hl, r, hz, Result.andThen]
  · rw [(m_at h.nodup hj hp p.2).1]
    simp [Instr.lookup, run_underlying ht, MapKept.run_getObj_map hb, K.check w _ hl, r, hv, Result.andThen]
/-- m[x]. -/
theorem MapR.look (K : Maps.Keyed P k) (inj : ∀ x y, ek x = ek y → x = y) (ht : P.underlying t = some (.map k e)) {z : Value} (hz : (zeroValue e).run P w = .ok z w) (h : MapR P k ek ev w b m) (x : κ) (hx : ∃ l, keyOf P k (ek x) = some l) :
    (Instr.lookup t (.map (some b)) (ek x) false).run P w = .ok (((mget m x).map ev).getD z) w := by
  obtain ⟨es, c, hb, hs, hm⟩ := h.ex
  obtain ⟨l, hl⟩ := id hx
  rcases h.find K inj hb x hx with ⟨r, _, hn⟩ | ⟨j, e0, p, r, _, _, hv, hj, hp⟩
  · rw [mget_none hn]
    simp [Instr.lookup, run_underlying ht, MapKept.run_getObj_map hb, K.check w _ hl, r, hz, Result.andThen]
  · rw [(m_at h.nodup hj hp p.2).1]
    simp [Instr.lookup, run_underlying ht, MapKept.run_getObj_map hb, K.check w _ hl, r, hv, Result.andThen]
/-- m[x] = v. -/
theorem MapR.store (K : Maps.Keyed P k) (inj : ∀ x y, ek x = ek y → x = y) (ht : P.underlying t = some (.map k e)) (h : MapR P k ek ev w b m) (x : κ) (v : β) (hx : ∃ l, keyOf P k (ek x) = some l) :
    ∃ w', (Instr.mapUpdate t (.map (some b)) (ek x) (ev v)).run P w = .ok () w' ∧ MapR P k ek ev w' b (mput m x v) ∧ Only w w' [b] ∧ w'.heap.size = w.heap.size := by
  obtain ⟨es, c, hb, hs, hm⟩ := h.ex
  obtain ⟨l, hl⟩ := id hx
  have honly : ∀ o, Only w (ChangeMaps.setBlock w b o) [b] := fun o => ⟨rfl, rfl, rfl, by simp [ChangeMaps.setBlock], fun i _ hi => ChangeMaps.heap_setBlock_other hb _ (fun e => hi (by rw [e]; exact List.mem_singleton.2 rfl))⟩
  rcases h.find K inj hb x hx with ⟨r, hne, hn⟩ | ⟨j, e0, p, r, hj, hk, hv, hjm, hp⟩
  · refine ⟨ChangeMaps.setBlock w b (.map (es.push ⟨ek x, ev v, c⟩) (c + 1)), ?_, ⟨⟨_, _, ChangeMaps.heap_setBlock_same hb _, MapKept.stamped_push hs hne, ?_⟩, ?_⟩, honly _, by simp [ChangeMaps.setBlock]⟩
    · simp [Instr.mapUpdate, run_underlying ht, MapKept.run_getObj_map hb, K.check w false hl, r, MapKept.run_setObj_map _ hb, Result.andThen, ChangeMaps.setBlock]
    · rw [mput_none hn, Array.toList_push, List.map_append, hm, List.map_append]; rfl
    · intro q hq
      rcases mput_mem hq with rfl | hq
      · exact hx
      · exact h.wf q hq
  · have hj' : es[j]? = some e0 := by simpa using hj
    refine ⟨ChangeMaps.setBlock w b (.map (es.modify j fun e' => { e' with key := ek x, val := ev v }) c), ?_, ⟨⟨_, _, ChangeMaps.heap_setBlock_same hb _, MapKept.stamped_modify hs _ _ (fun _ _ => rfl) (fun e' _ he' => ?_), ?_⟩, ?_⟩, honly _, by simp [ChangeMaps.setBlock]⟩
    · simp [Instr.mapUpdate, run_underlying ht, MapKept.run_getObj_map hb, K.check w false hl, r, hj', hk, K.stays w hl, MapKept.run_setObj_map _ hb, Result.andThen, ChangeMaps.setBlock]
    · rw [hj'] at he'; cases he'; exact hk.symm
    · rw [(m_at h.nodup hjm hp v).2.1, Array.toList_modify, ChangeMaps.modify_eq_set _ _ _ _ hj, List.map_set, hm, List.map_set]
    · intro q hq
      rcases mput_mem hq with rfl | hq
      · exact hx
      · exact h.wf q hq
/-- delete(m, x). -/
theorem MapR.drop {ty : TypeId} (K : Maps.Keyed P k) (inj : ∀ x y, ek x = ek y → x = y) (ht : P.underlying t = some (.map k e)) (h : MapR P k ek ev w b m) (x : κ) (hx : ∃ l, keyOf P k (ek x) = some l) :
    ∃ w', (Builtin.delete_ #[t, k] ty #[.map (some b), ek x]).run P w = .ok (.tuple #[]) w' ∧ MapR P k ek ev w' b (mdel m x) ∧ Only w w' [b] ∧ w'.heap.size = w.heap.size := by
  obtain ⟨es, c, hb, hs, hm⟩ := h.ex
  obtain ⟨l, hl⟩ := id hx
  have honly : ∀ o, Only w (ChangeMaps.setBlock w b o) [b] := fun o => ⟨rfl, rfl, rfl, by simp [ChangeMaps.setBlock], fun i _ hi => ChangeMaps.heap_setBlock_other hb _ (fun e => hi (by rw [e]; exact List.mem_singleton.2 rfl))⟩
  rcases h.find K inj hb x hx with ⟨r, hne, hn⟩ | ⟨j, e0, p, r, hj, hk, hv, hjm, hp⟩
  · refine ⟨ChangeMaps.setBlock w b (.map es c), ?_, ⟨⟨_, _, ChangeMaps.heap_setBlock_same hb _, hs, ?_⟩, ?_⟩, honly _, by simp [ChangeMaps.setBlock]⟩
    · simp [Builtin.delete_, run_underlying ht, MapKept.run_getObj_map hb, K.check w _ hl, r, MapKept.run_setObj_map _ hb, Result.andThen, ChangeMaps.setBlock]
    · rw [mdel_none hn, hm]
    · rw [mdel_none hn]; exact h.wf
  · have hsub : (es.eraseIdxIfInBounds j).toList = es.toList.eraseIdx j := by
      have hjs : j < es.size := by simpa using (List.getElem?_eq_some_iff.1 hj).1
      unfold Array.eraseIdxIfInBounds
      rw [dif_pos hjs]
      simp
    refine ⟨ChangeMaps.setBlock w b (.map (es.eraseIdxIfInBounds j) c), ?_, ⟨⟨_, _, ChangeMaps.heap_setBlock_same hb _, MapKept.stamped_erase hs j, ?_⟩, ?_⟩, honly _, by simp [ChangeMaps.setBlock]⟩
    · simp [Builtin.delete_, run_underlying ht, MapKept.run_getObj_map hb, K.check w _ hl, r, MapKept.run_setObj_map _ hb, Result.andThen, ChangeMaps.setBlock]
    · rw [hsub, (m_at h.nodup hjm hp p.2).2.2, ChangeMaps.map_eraseIdx, hm, ChangeMaps.map_eraseIdx]
    · intro q hq
      exact h.wf q ((mdel_sub m x).subset hq)
/-- len(m). -/
theorem MapR.len (h : MapR P k ek ev w b m) (ht : P.underlying t = some (.map k e)) (ty : TypeId) : (Builtin.len_ #[t] ty #[.map (some b)]).run P w = .ok (.int .i64 m.length) w := by
  obtain ⟨es, c, hb, hs, hm⟩ := h.ex
  have : es.size = m.length := by
    have := congrArg List.length hm
    simpa using this
  simp [Builtin.len_, run_underlying ht, MapKept.run_getObj_map hb, this, goInt]
end

end Go.Proofs.YtimpjlnbbdfehaaGreatDoor
namespace Go.Proofs.YtimpjlnbbdfehaaGreatDoor
open Go.RowKit Go.Shelf Go.Lib Go.Sort
set_option linter.unusedVariables false
attribute [local go_sem ↓] shr_32_1 shl_32_1 shr_32_2 shl_32_2 shr_32_3 shl_32_3 shr_32_4 shl_32_4 shr_32_5 shl_32_5 shr_32_6 shl_32_6 shr_32_7 shl_32_7 shr_32_8 shl_32_8 shr_32_9 shl_32_9 shr_32_10 shl_32_10 shr_32_11 shl_32_11 shr_32_12 shl_32_12 shr_32_13 shl_32_13 shr_32_14 shl_32_14 shr_32_15 shl_32_15 shr_32_16 shl_32_16 shr_32_17 shl_32_17 shr_32_18 shl_32_18 shr_32_19 shl_32_19 shr_32_20 shl_32_20 shr_32_21 shl_32_21 shr_32_22 shl_32_22 shr_32_23 shl_32_23 shr_32_24 shl_32_24 shr_32_25 shl_32_25 shr_32_26 shl_32_26 shr_32_27 shl_32_27 shr_32_28 shl_32_28 shr_32_29 shl_32_29 shr_32_30 shl_32_30 shr_32_31 shl_32_31 shr_64_3 shl_64_3 shr_64_7 shl_64_7 shr_64_8 shl_64_8 shr_64_16 shl_64_16 shr_64_24 shl_64_24 shr_64_32 shl_64_32 shr_64_40 shl_64_40 shr_64_48 shl_64_48 shr_64_56 shl_64_56
attribute [local go_sem] add_u32 add_u64 and_u8 or_u8 xor_u8 and_u32 or_u32 xor_u32 and_u64 or_u64 xor_u64 conv_32_8 conv_64_8 conv_64_32 conv_8_32 conv_8_64 conv_32_64

/-! ### A disk: what is sure, what was written since, in which order, how many acts -/
structure DS where
  sure : List ByteArray
  now : List (Int × ByteArray)
  row : List Int
  acts : Nat
def strs (l : List ByteArray) : Array Value := (l.map Value.string).toArray
def ints (l : List Int) : List Value := l.map (Value.int .i64)
def ki (n : Int) : Value := .int .i64 n
theorem ki_inj (x y : Int) (h : ki x = ki y) : x = y := by unfold ki at h; injection h
def I64 (n : Int) : Prop := -9223372036854775808 ≤ n ∧ n ≤ 9223372036854775807
theorem K3 : Maps.Keyed Tryz.prog 3 := Maps.int_keyed Tryz.underlying3
theorem key3 {n : Int} (h : I64 n) : ∃ l, keyOf Tryz.prog 3 (ki n) = some l := ⟨_, Maps.keyOf_int_mk Tryz.underlying3 (by
  obtain ⟨h1, h2⟩ := h
  simp [Lit.wf, IntKind.min, IntKind.max, IntKind.signed, IntKind.bits]
  omega)⟩
theorem zero9 (w : World) : (zeroValue 9).run Tryz.prog w = .ok (.string ⟨#[]⟩) w := by kernel_rfl
theorem wrap_in (n : Int) (h0 : -9223372036854775808 ≤ n) (h1 : n ≤ 9223372036854775807) : IntKind.i64.wrap n = n := by
  simp [IntKind.wrap, IntKind.bits, IntKind.signed]
  omega
/-- The blocks of a disk. -/
structure DiskC (w : World) (d sb nb : Nat) (rv : Value) (s : DS) : Prop where
  box : Blk w d 135 #[.slice (some ⟨sb, 0, none⟩) s.sure.length s.sure.length, .map (some nb), rv, .int .i64 (s.acts : Int), .slice none 0 0, .bool false]
  sure : Blk w sb 9 (strs s.sure)
  now : MapR Tryz.prog 3 ki Value.string w nb s.now
  row : Mid w 1 3 1 rv s.row.length (ints s.row)
  p1 : 0 < d
  p2 : 0 < sb
  p3 : 0 < nb
def dfp (d sb nb : Nat) (rv : Value) : List Nat := d :: sb :: nb :: rv.ownBlock.toList
def DiskR (w : World) (d : Nat) (s : DS) (F : List Nat) : Prop := ∃ sb nb rv, DiskC w d sb nb rv s ∧ F = dfp d sb nb rv
/-- What a disk's numbers may be. -/
structure DS.ok (s : DS) : Prop where
  len : s.sure.length ≤ 100000
  row : s.row.length ≤ s.acts
  acts : s.acts ≤ 1000000
  all : ∀ x ∈ s.sure, x.size = 512
  nall : ∀ p ∈ s.now, p.2.size = 512
/-- F' is F and what is new. -/
def Fresh (w : World) (F F' : List Nat) : Prop := ∀ x ∈ F', x ∈ F ∨ w.heap.size ≤ x
section
variable {w w' : World} {d sb nb : Nat} {rv : Value} {s : DS} {S : List Nat}
theorem DiskC.only (h : DiskC w d sb nb rv s) (ho : Only w w' S) (hd : ∀ x ∈ dfp d sb nb rv, x ∉ S) : DiskC w' d sb nb rv s :=
  ⟨ho.blk h.box (hd _ (by simp [dfp])), ho.blk h.sure (hd _ (by simp [dfp])), h.now.only ho (hd _ (by simp [dfp])), h.row.only ho (fun g hg => hd g (by simp [dfp, hg])), h.p1, h.p2, h.p3⟩
theorem DiskC.ne1 (h : DiskC w d sb nb rv s) : d ≠ sb := Blk.ne_ h.box h.sure (by decide)
theorem DiskC.ne2 (h : DiskC w d sb nb rv s) : nb ≠ d := h.now.ne_blk h.box
theorem DiskC.ne3 (h : DiskC w d sb nb rv s) : nb ≠ sb := h.now.ne_blk h.sure
theorem DiskC.ne4 (h : DiskC w d sb nb rv s) : rv.ownBlock ≠ some d := h.row.ne_blk h.box (by decide)
theorem DiskC.ne5 (h : DiskC w d sb nb rv s) : rv.ownBlock ≠ some sb := h.row.ne_blk h.sure (by decide)
theorem DiskC.ne6 (h : DiskC w d sb nb rv s) : rv.ownBlock ≠ some nb := fun e => by
  obtain ⟨_, cur, hc⟩ := h.row.block nb e
  exact h.now.ne_blk hc rfl
theorem DiskC.lt (h : DiskC w d sb nb rv s) : ∀ x ∈ dfp d sb nb rv, x < w.heap.size ∧ 0 < x := by
  intro x hx
  simp only [dfp, List.mem_cons, Option.mem_toList] at hx
  rcases hx with rfl | rfl | rfl | hx
  · exact ⟨h.box.lt, h.p1⟩
  · exact ⟨h.sure.lt, h.p2⟩
  · exact ⟨h.now.lt, h.p3⟩
  · obtain ⟨h1, cur, hc⟩ := h.row.block x hx
    exact ⟨hc.lt, h1⟩
end
set_option maxHeartbeats 400000 in
theorem blocks_ok {w : World} {d sb nb : Nat} {rv : Value} {s : DS} (h : DiskC w d sb nb rv s) :
    Calls Tryz.prog 113 #[.pointer (some ⟨d, 0, none⟩)] w fun e w' => e = .returned (.int .i64 (s.sure.length : Int)) ∧ w = w' := by
  have c0 := h.box.cell 0
  go_enter Tryz.func113, Tryz.ntmps113
  go_wp2
  go_ret
  exact ⟨rfl, rfl⟩
def hasB (n : Int) (k : Nat) : Bool := decide (0 ≤ n) && decide (n < (k : Int))
set_option maxHeartbeats 400000 in
theorem has_ok {w : World} {d sb nb : Nat} {rv : Value} {s : DS} (h : DiskC w d sb nb rv s) (n : Int) :
    Calls Tryz.prog 69 #[.pointer (some ⟨d, 0, none⟩), .int .i64 n] w fun e w' => e = .returned (.bool (hasB n s.sure.length)) ∧ w = w' := by
  have H := Lib.hid (blocks_ok h)
  clear h
  by_cases h0 : 0 ≤ n
  · go_enter Tryz.func69, Tryz.ntmps69
    go_wp2_with ((with_reducible refine H.out.mono ?_); rintro e w' ⟨rfl, rfl⟩)
    go_ret
    refine ⟨?_, rfl⟩
    simp [hasB, h0]
  · have h1 : decide (0 ≤ n) = false := by simpa using h0
    go_enter Tryz.func69, Tryz.ntmps69
    go_wp2
    go_ret
    refine ⟨?_, rfl⟩
    unfold hasB
    rw [h1]
    rfl
set_option maxHeartbeats 400000 in
theorem dead_ok {w : World} {d sb nb : Nat} {rv : Value} {s : DS} (h : DiskC w d sb nb rv s) :
    Calls Tryz.prog 68 #[.pointer (some ⟨d, 0, none⟩)] w fun e w' => e = .returned (.bool false) ∧ w = w' := by
  have c0 := h.box.cell 5
  go_enter Tryz.func68, Tryz.ntmps68
  go_wp2
  go_ret
  exact ⟨rfl, rfl⟩
def DS.act (s : DS) : DS := { s with acts := s.acts + 1 }
theorem DiskC.act {w : World} {d sb nb : Nat} {rv : Value} {s : DS} (h : DiskC w d sb nb rv s) (v : Int) (hv : v = ((s.acts + 1 : Nat) : Int)) : DiskC (w.setCell ⟨d, 3, none⟩ (.int .i64 v)) d sb nb rv s.act := by
  subst hv
  have ho : Only w (w.setCell ⟨d, 3, none⟩ (.int .i64 ((s.acts + 1 : Nat) : Int))) [d] := (Only.refl w [d]).setCell (List.mem_singleton.2 rfl) _
  refine ⟨h.box.set_ 3 _, ho.blk h.sure ?_, h.now.only ho ?_, h.row.only ho ?_, h.p1, h.p2, h.p3⟩
  · simpa using h.ne1.symm
  · simpa using h.ne2
  · intro g hg e
    rw [List.mem_singleton] at e
    exact h.ne4 (by rw [hg, e])
set_option maxHeartbeats 1000000 in
theorem act_ok {w : World} {d sb nb : Nat} {rv : Value} {s : DS} (h : DiskC w d sb nb rv s) (hs : s.acts ≤ 1000000) :
    Calls Tryz.prog 77 #[.pointer (some ⟨d, 0, none⟩)] w fun e w' => e = .returned (.int .i64 0) ∧ w' = w.setCell ⟨d, 3, none⟩ (.int .i64 ((s.acts + 1 : Nat) : Int)) := by
  have c3 := h.box.cell 3
  have c5 := h.box.cell 5
  have c4 := h.box.cell 4
  have f3 := h.box.frozen 3
  have hw : IntKind.i64.wrap ((s.acts : Int) + 1) = ((s.acts + 1 : Nat) : Int) := wrap_in _ (by omega) (by omega)
  obtain ⟨a, ha⟩ : ∃ a : Int, a = (s.acts : Int) := ⟨_, rfl⟩
  clear h
  go_enter Tryz.func77, Tryz.ntmps77
  go_wp2
  go_loop [25] (fun i => i = .int .i64 0) (fun _ => 0)
  case atStart => rfl
  case round =>
    subst hrel
    go_wp2
    go_ret
    exact ⟨rfl, rfl⟩
theorem act_ok2 {w : World} {d sb nb : Nat} {rv : Value} {s : DS} (h : DiskC w d sb nb rv s) (hs : s.acts ≤ 1000000) :
    Calls Tryz.prog 77 #[.pointer (some ⟨d, 0, none⟩)] w fun e w' => e = .returned (.int .i64 0) ∧ DiskC w' d sb nb rv s.act ∧ Only w w' [d] :=
  (act_ok h hs).mono fun _ _ ⟨he, hw⟩ => ⟨he, by rw [hw]; exact h.act _ rfl, by rw [hw]; exact (Only.refl w [d]).setCell (List.mem_singleton.2 rfl) _⟩
/-- What is read of a block. -/
def DS.get (s : DS) (k : Nat) : ByteArray := (mget s.now (k : Int)).getD (s.sure.getD k ⟨#[]⟩)
theorem strs_get (l : List ByteArray) (k : Nat) (h : k < l.length) : (strs l)[k]? = some (.string (l.getD k ⟨#[]⟩)) := by
  simp [strs, h]
theorem i64_nat {k m : Nat} (h : k < m) (hm : m ≤ 100000) : I64 (k : Int) := ⟨by omega, by omega⟩
theorem DiskC.look {w : World} {d sb nb : Nat} {rv : Value} {s : DS} (h : DiskC w d sb nb rv s) (n : Int) (hn : I64 n) :
    (Instr.lookup 132 (.map (some nb)) (.int .i64 n) true).run Tryz.prog w = .ok (.tuple #[.string ((mget s.now n).getD ⟨#[]⟩), .bool (mget s.now n).isSome]) w := by
  have := h.now.look2 K3 ki_inj Tryz.underlying132 (zero9 w) n (key3 hn)
  rw [show ki n = .int .i64 n by rfl] at this
  rw [this]
  cases mget s.now n <;> rfl
set_option maxHeartbeats 1000000 in
theorem dread_ok {w : World} {d sb nb : Nat} {rv : Value} {s : DS} (h : DiskC w d sb nb rv s) (hl : s.sure.length ≤ 100000) (k : Nat) (hk : k < s.sure.length) :
    Calls Tryz.prog 18 #[.pointer (some ⟨d, 0, none⟩), .int .i64 (k : Int)] w fun e w' => e = .returned (.tuple #[.string (s.get k), .int .i64 0]) ∧ w = w' := by
  have c0 := h.box.cell 0
  have c1 := h.box.cell 1
  have HD := Lib.hid (dead_ok h)
  have HA := Lib.hid (has_ok h (k : Int))
  have hb : hasB (k : Int) s.sure.length = true := by simp [hasB]; omega
  rw [hb] at HA
  have hlook := h.look (k : Int) (i64_nat hk hl)
  have cs := h.sure.cell k
  rw [strs_get _ _ hk] at cs
  have HG : Hid (s.get k = (mget s.now (k : Int)).getD (s.sure.getD k ⟨#[]⟩)) := rfl
  generalize s.get k = g at *
  have HK := Lib.hid hk
  clear h hb
  cases hm : mget s.now (k : Int) with
  | some x =>
    rw [hm] at hlook HG
    obtain rfl : g = x := HG.out
    clear hm HG
    dsimp only [Option.getD_some, Option.isSome_some] at hlook
    go_enter Tryz.func18, Tryz.ntmps18
    go_wp2_with (first
      | ((with_reducible refine HD.out.mono ?_); rintro e w' ⟨rfl, rfl⟩)
      | ((with_reducible refine HA.out.mono ?_); rintro e w' ⟨rfl, rfl⟩))
    go_ret2
    exact ⟨rfl, rfl⟩
  | none =>
    rw [hm] at hlook HG
    obtain rfl : g = _ := HG.out
    clear hm HG
    dsimp only [Option.getD_none, Option.isSome_none] at *
    have hk1 := HK.out
    generalize s.sure.getD k ⟨#[]⟩ = g at *
    generalize s.sure.length = n at *
    go_enter Tryz.func18, Tryz.ntmps18
    go_wp2_with (first
      | ((with_reducible refine HD.out.mono ?_); rintro e w' ⟨rfl, rfl⟩)
      | ((with_reducible refine HA.out.mono ?_); rintro e w' ⟨rfl, rfl⟩))
    go_ret2
    exact ⟨rfl, rfl⟩
set_option maxHeartbeats 1000000 in
theorem dread_out {w : World} {d sb nb : Nat} {rv : Value} {s : DS} (h : DiskC w d sb nb rv s) (n : Int) (hb : hasB n s.sure.length = false) :
    Calls Tryz.prog 18 #[.pointer (some ⟨d, 0, none⟩), .int .i64 n] w fun e w' => e = .returned (.tuple #[.string ⟨#[]⟩, .int .i64 1]) ∧ w = w' := by
  have HD := Lib.hid (dead_ok h)
  have HA := Lib.hid (has_ok h n)
  rw [hb] at HA
  clear h hb
  go_enter Tryz.func18, Tryz.ntmps18
  go_wp2_with (first
    | ((with_reducible refine HD.out.mono ?_); rintro e w' ⟨rfl, rfl⟩)
    | ((with_reducible refine HA.out.mono ?_); rintro e w' ⟨rfl, rfl⟩))
  go_ret2
  exact ⟨rfl, rfl⟩
/-- A call that turns what it holds, and nothing else. -/
def Turns (R : World → List Nat → Prop) (w : World) (F : List Nat) (v : Value) (e : Ending) (w' : World) : Prop := e = .returned v ∧ ∃ F', R w' F' ∧ Only w w' F ∧ Fresh w F F'
def DS.write (s : DS) (n : Int) (x : ByteArray) : DS := ⟨s.sure, mput s.now n x, if (mget s.now n).isSome then s.row else s.row ++ [n], s.acts + 1⟩
theorem DiskC.store {w : World} {d sb nb : Nat} {rv : Value} {s : DS} (h : DiskC w d sb nb rv s) (n : Int) (x : ByteArray) (hn : I64 n) :
    ∃ w', (Instr.mapUpdate 132 (.map (some nb)) (.int .i64 n) (.string x)).run Tryz.prog w = .ok () w' ∧ DiskC w' d sb nb rv { s with now := mput s.now n x } ∧ Only w w' [nb] := by
  obtain ⟨w', h1, h2, h3, _⟩ := h.now.store K3 ki_inj Tryz.underlying132 n x (key3 hn)
  refine ⟨w', h1, ⟨h3.blk h.box (by simpa using h.ne2.symm), h3.blk h.sure (by simpa using h.ne3.symm), h2, h.row.only h3 ?_, h.p1, h.p2, h.p3⟩, h3⟩
  intro g hg e
  rw [List.mem_singleton] at e
  exact h.ne6 (by rw [hg, e])
theorem info3 : (Tryz.prog.info? 3).map (fun i => (i.zero, i.size, i.bytes)) = some (some (.int .i64 0), 1, 8) := by kernel_rfl
theorem fresh_dfp {w : World} {d sb nb : Nat} {rv v : Value} (h : v.ownBlock = rv.ownBlock ∨ ∃ g, v.ownBlock = some g ∧ w.heap.size ≤ g) : Fresh w (dfp d sb nb rv) (dfp d sb nb v) := by
  intro x hx
  simp only [dfp, List.mem_cons, Option.mem_toList] at hx ⊢
  rcases hx with rfl | rfl | rfl | hx
  · exact .inl (.inl rfl)
  · exact .inl (.inr (.inl rfl))
  · exact .inl (.inr (.inr (.inl rfl)))
  · rcases h with h | ⟨g, hg, hl⟩
    · exact .inl (.inr (.inr (.inr (by rw [← h]; exact hx))))
    · rw [hg] at hx
      injection hx with hx
      exact .inr (by rw [← hx]; exact hl)
/-- The row behind an append. -/
theorem DiskC.push {w w1 : World} {d sb nb : Nat} {rv v : Value} {s : DS} {n : Int} (h : DiskC w d sb nb rv s) (hm : Mid w1 1 3 1 v (s.row.length + 1) (ints s.row ++ [.int .i64 n])) (hg : w.grownBy w1 rv.ownBlock)
    (ho : v.ownBlock = rv.ownBlock ∨ ∃ g, v.ownBlock = some g ∧ w.heap.size ≤ g) :
    ∃ A cap, v = .slice A (s.row.length + 1) cap ∧ w1.cell? ⟨d, 1, none⟩ = some (.map (some nb)) ∧ w1.cell? ⟨d, 2, none⟩ = some rv ∧ w1.frozen? ⟨d, 2, none⟩ = false ∧
      DiskC (w1.setCell ⟨d, 2, none⟩ v) d sb nb v { s with row := s.row ++ [n] } ∧ Only w (w1.setCell ⟨d, 2, none⟩ v) (dfp d sb nb rv) ∧ Fresh w (dfp d sb nb rv) (dfp d sb nb v) := by
  have hO : Only w w1 rv.ownBlock.toList := Only.of_grown hg (fun g e => by simp [e])
  have hbox : Blk w1 d 135 _ := hO.blk h.box (by simpa using fun e => h.ne4 e)
  have hsure : Blk w1 sb 9 _ := hO.blk h.sure (by simpa using fun e => h.ne5 e)
  have hnow := h.now.only hO (by simpa using fun e => h.ne6 e)
  obtain ⟨A, cap, rfl, _, _, _⟩ := hm.form
  have hS : Only w1 (w1.setCell ⟨d, 2, none⟩ (.slice A (s.row.length + 1) cap)) [d] := (Only.refl w1 [d]).setCell (List.mem_singleton.2 rfl) _
  refine ⟨A, cap, rfl, hbox.cell 1, hbox.cell 2, hbox.frozen 2, ⟨?_, hS.blk hsure (by simpa using h.ne1.symm), hnow.only hS (by simpa using h.ne2), ?_, h.p1, h.p2, h.p3⟩, ?_, fresh_dfp ho⟩
  · exact hbox.set_ 2 _
  · have := hm.only hS (fun g hg e => by
      rw [List.mem_singleton] at e
      subst e
      exact hm.ne_blk hbox (by decide) hg)
    simpa [ints] using this
  · exact (hO.mono (by intro x hx; simp only [dfp, List.mem_cons]; exact .inr (.inr (.inr hx)))).setCell (by simp [dfp]) _
theorem DiskC.alloc {w : World} {d sb nb : Nat} {rv : Value} {s : DS} (h : DiskC w d sb nb rv s) (o : Obj) : DiskC (w.alloc o) d sb nb rv s := h.only (S := []) ((Only.refl w []).alloc o) (by simp)
theorem row_one (w : World) (t : TypeId) (u : Value) : Row (w.alloc (.cells #[u] t)) (some ⟨w.heap.size, 0, none⟩) [u] := row_cells w [u] t
theorem ints_one (l : List Int) : ∀ u ∈ ints l, u.oneCell' = true := fun u hu => by
  obtain ⟨c, _, rfl⟩ := List.mem_map.1 hu; rfl
theorem ints_len (l : List Int) : (ints l).length = l.length := List.length_map ..
set_option maxHeartbeats 2000000 in
theorem dwrite_old {w : World} {d sb nb : Nat} {rv : Value} {s : DS} (h : DiskC w d sb nb rv s) (ok : s.ok) (k : Nat) (hk : k < s.sure.length) (x : ByteArray) (hx : x.size = 512) (hm : (mget s.now (k : Int)).isSome = true) :
    Calls Tryz.prog 66 #[.pointer (some ⟨d, 0, none⟩), .int .i64 (k : Int), .string x] w (Turns (fun w' F' => DiskR w' d (s.write (k : Int) x) F') w (dfp d sb nb rv) (.int .i64 0)) := by
  have HD := Lib.hid (dead_ok h)
  have HA := Lib.hid (has_ok h (k : Int))
  have hb : hasB (k : Int) s.sure.length = true := by simp [hasB]; omega
  rw [hb] at HA
  have HC := Lib.hid (act_ok2 h ok.acts)
  have hx1 : ((x.size : Int) != 512) = false := by simp [hx]
  have HX := Lib.hid hx
  have hI := i64_nat hk ok.len
  have HF : Hid (∀ w3, DiskC w3 d sb nb rv { s.act with now := mput s.act.now (k : Int) x } → Only w w3 (dfp d sb nb rv) → Turns (fun w' F' => DiskR w' d (s.write (k : Int) x) F') w (dfp d sb nb rv) (.int .i64 0) (.returned (.int .i64 0)) w3) := fun w3 h3 ho => by
    refine ⟨rfl, _, ⟨sb, nb, rv, ?_, rfl⟩, ho, fun x hx => .inl hx⟩
    unfold DS.write
    rw [if_pos hm]
    exact h3
  clear hb hx h hk
  go_enter Tryz.func66, Tryz.ntmps66
  go_wp2_with (first
    | ((with_reducible refine HD.out.mono ?_); rintro e w' ⟨rfl, rfl⟩)
    | ((with_reducible refine HA.out.mono ?_); rintro e w' ⟨rfl, rfl⟩)
    | fail)
  refine HC.out.mono ?_
  rintro e w1 ⟨rfl, hD, hO⟩
  have c1 := hD.box.cell 1
  have hlook := hD.look (k : Int) hI
  rw [show (mget s.act.now (k : Int)).isSome = true from hm] at hlook
  obtain ⟨w3, hrun, hD3, hO3⟩ := hD.store (k : Int) x hI
  have HE := Lib.hid (HF.out w3 hD3 ((hO.mono (by simp [dfp])).trans (hO3.mono (by simp [dfp]))))
  clear hD hO hD3 hO3 HF HC HA HD
  generalize (mget s.act.now (k : Int)).getD ⟨#[]⟩ = g at *
  go_wp2
  go_ret
  exact HE.out
theorem mput_none_get {s : DS} {n : Int} (hm : (mget s.now n).isSome = false) (x : ByteArray) : s.write n x = { ({ s.act with row := s.row ++ [n] } : DS) with now := mput s.now n x } := by
  unfold DS.write
  rw [if_neg (by simp [hm])]
  rfl
set_option maxHeartbeats 2000000 in
set_option maxRecDepth 100000 in
theorem dwrite_new {w : World} {d sb nb : Nat} {rv : Value} {s : DS} (h : DiskC w d sb nb rv s) (ok : s.ok) (k : Nat) (hk : k < s.sure.length) (x : ByteArray) (hx : x.size = 512) (hm : (mget s.now (k : Int)).isSome = false) :
    Calls Tryz.prog 66 #[.pointer (some ⟨d, 0, none⟩), .int .i64 (k : Int), .string x] w (Turns (fun w' F' => DiskR w' d (s.write (k : Int) x) F') w (dfp d sb nb rv) (.int .i64 0)) := by
  have HD := Lib.hid (dead_ok h)
  have HA := Lib.hid (has_ok h (k : Int))
  have hb : hasB (k : Int) s.sure.length = true := by simp [hasB]; omega
  rw [hb] at HA
  have HC := Lib.hid (act_ok2 h ok.acts)
  have hx1 : ((x.size : Int) != 512) = false := by simp [hx]
  have HX := Lib.hid hx
  have hI := i64_nat hk ok.len
  have HL : Hid (s.row.length ≤ 1000000) := Nat.le_trans ok.row ok.acts
  have HW := Lib.hid (mput_none_get hm x)
  have HB := Lib.hid h.box.lt
  obtain ⟨i0, hi0, hz0, hz1, hz2⟩ := info_parts info3
  clear hb hx h hk
  go_enter Tryz.func66, Tryz.ntmps66
  go_wp2_with (first
    | ((with_reducible refine HD.out.mono ?_); rintro e w' ⟨rfl, rfl⟩)
    | ((with_reducible refine HA.out.mono ?_); rintro e w' ⟨rfl, rfl⟩)
    | fail)
  refine HC.out.mono ?_
  rintro e w1 ⟨rfl, hD, hO⟩
  have c1 := hD.box.cell 1
  have c2 := hD.box.cell 2
  have hlook := hD.look (k : Int) hI
  rw [show (mget s.act.now (k : Int)).isSome = false from hm] at hlook
  have HDD := Lib.hid hD
  have HOO := Lib.hid hO
  clear hD hO HC HA HD hm
  generalize (mget s.act.now (k : Int)).getD ⟨#[]⟩ = g at *
  go_wp2_with (at_builtin; refine wpList_append_mid _ rfl (.tmp 43) (.tmp 45) 44 rfl 1 3 i0 (.int .i64 0) 1 8 Tryz.underlying44 hi0 hz0 hz1 hz2 rfl (by decide) _ _ _ rfl (HDD.out.row.alloc _) (some ⟨w1.heap.size, 0, none⟩) 1 1 [.int .i64 (k : Int)] rfl rfl (row_one _ _ _) (by simp [Value.oneCell']) (by have := HL.out; simp only [maxLen, DS.act]; omega) (by have := HL.out; simp only [DS.act]; omega) (by simp) ?_; intro v2 w2 hm2 hg2 ho2; obtain ⟨A, cap, rfl, e1, e2, e3, hD2, hO2, hF2⟩ := (HDD.out.alloc (.cells #[.int .i64 (k : Int)] 3)).push (n := (k : Int)) hm2 hg2 (ho2.imp id fun e => ⟨_, e, Nat.le_refl _⟩); obtain ⟨w3, hrun, hD3, hO3⟩ := hD2.store (k : Int) x hI; have HD3 := Lib.hid hD3; have HO3 := Lib.hid hO3; have HO2 := Lib.hid hO2; have HF2 := Lib.hid hF2; clear hm2 hg2 ho2 hD2 hO2 hF2 hD3 hO3)
  go_ret
  have o1 : Only w w3 (dfp d sb nb rv) := (HOO.out.mono (by simp [dfp])).trans ((((Only.refl w1 _).alloc _).trans HO2.out).trans (HO3.out.mono (by simp [dfp])))
  refine ⟨rfl, _, ⟨sb, nb, .slice A (s.act.row.length + 1) cap, ?_, rfl⟩, o1, ?_⟩
  · rw [HW.out]; exact HD3.out
  · intro y hy
    rcases HF2.out y hy with h | h
    · exact .inl h
    · exact .inr (Nat.le_trans HOO.out.size (by simp at h; omega))
theorem dwrite_ok {w : World} {d : Nat} {s : DS} {F : List Nat} (h : DiskR w d s F) (ok : s.ok) (k : Nat) (hk : k < s.sure.length) (x : ByteArray) (hx : x.size = 512) :
    Calls Tryz.prog 66 #[.pointer (some ⟨d, 0, none⟩), .int .i64 (k : Int), .string x] w (Turns (fun w' F' => DiskR w' d (s.write (k : Int) x) F') w F (.int .i64 0)) := by
  obtain ⟨sb, nb, rv, h, rfl⟩ := h
  cases hm : (mget s.now (k : Int)).isSome
  · exact dwrite_new h ok k hk x hx hm
  · exact dwrite_old h ok k hk x hx hm
theorem DS.write_ok {s : DS} (ok : s.ok) (n : Int) (x : ByteArray) (hx : x.size = 512) (ha : s.acts < 1000000) : (s.write n x).ok := by
  refine ⟨ok.len, ?_, ha, ok.all, ?_⟩
  · unfold DS.write
    have := ok.row
    dsimp only
    split
    · omega
    · rw [List.length_append]; simp; omega
  · intro p hp
    rcases mput_mem hp with rfl | hp
    · exact hx
    · exact ok.nall p hp
set_option maxHeartbeats 2000000 in
theorem dwrite_out {w : World} {d sb nb : Nat} {rv : Value} {s : DS} (h : DiskC w d sb nb rv s) (n : Int) (hb : hasB n s.sure.length = false) (x : ByteArray) :
    Calls Tryz.prog 66 #[.pointer (some ⟨d, 0, none⟩), .int .i64 n, .string x] w fun e w' => e = .returned (.int .i64 1) ∧ w = w' := by
  have HD := Lib.hid (dead_ok h)
  have HA := Lib.hid (has_ok h n)
  rw [hb] at HA
  clear h hb
  go_enter Tryz.func66, Tryz.ntmps66
  go_wp2_with (first
    | ((with_reducible refine HD.out.mono ?_); rintro e w' ⟨rfl, rfl⟩)
    | ((with_reducible refine HA.out.mono ?_); rintro e w' ⟨rfl, rfl⟩))
  go_ret
  exact ⟨rfl, rfl⟩
/-- What an enemy writes. -/
def DS.poke (s : DS) (k : Nat) (x : ByteArray) : DS := { s with sure := s.sure.set k x, now := if (mget s.now (k : Int)).isSome then mput s.now (k : Int) x else s.now }
theorem strs_set (l : List ByteArray) (k : Nat) (x : ByteArray) : (strs l).setIfInBounds k (.string x) = strs (l.set k x) := by
  unfold strs
  rw [List.setIfInBounds_toArray, List.map_set]
theorem DiskC.lay {w : World} {d sb nb : Nat} {rv : Value} {s : DS} (h : DiskC w d sb nb rv s) (k : Nat) (x : ByteArray) :
    DiskC (w.setCell ⟨sb, k, none⟩ (.string x)) d sb nb rv { s with sure := s.sure.set k x } ∧ Only w (w.setCell ⟨sb, k, none⟩ (.string x)) [sb] := by
  have ho : Only w (w.setCell ⟨sb, k, none⟩ (.string x)) [sb] := (Only.refl w [sb]).setCell (List.mem_singleton.2 rfl) _
  have hs := h.sure.set_ k (.string x)
  rw [strs_set] at hs
  refine ⟨⟨?_, hs, h.now.only ho (by simpa using h.ne3), h.row.only ho ?_, h.p1, h.p2, h.p3⟩, ho⟩
  · have := ho.blk h.box (by simpa using h.ne1)
    simpa using this
  · intro g hg e
    rw [List.mem_singleton] at e
    exact h.ne5 (by rw [hg, e])
set_option maxHeartbeats 2000000 in
theorem poke_ok {w : World} {d : Nat} {s : DS} {F : List Nat} (h : DiskR w d s F) (ok : s.ok) (k : Nat) (hk : k < s.sure.length) (x : ByteArray) (hx : x.size = 512) :
    Calls Tryz.prog 29 #[.pointer (some ⟨d, 0, none⟩), .int .i64 (k : Int), .string x] w (Turns (fun w' F' => DiskR w' d (s.poke k x) F') w F (.bool true)) := by
  obtain ⟨sb, nb, rv, h, rfl⟩ := h
  have HA := Lib.hid (has_ok h (k : Int))
  have hb : hasB (k : Int) s.sure.length = true := by simp [hasB]; omega
  rw [hb] at HA
  have hx1 : ((x.size : Int) != 512) = false := by simp [hx]
  have hI := i64_nat hk ok.len
  obtain ⟨h1, ho1⟩ := h.lay k x
  have hc0 := h.box.cell 0
  have hcs := h.sure.cell k
  rw [strs_get _ _ hk] at hcs
  have hfs := h.sure.frozen k
  have hc1 := h.box.cell 1
  have hlook := h1.look (k : Int) hI
  obtain ⟨w3, hrun, h3, ho3⟩ := h1.store (k : Int) x hI
  have hne : d ≠ sb := h.ne1
  have HP : Hid (s.poke k x = ({ s with sure := s.sure.set k x, now := if (mget s.now (k : Int)).isSome then mput s.now (k : Int) x else s.now } : DS)) := rfl
  dsimp only at hlook h3
  have H1 := Lib.hid h1
  have H3 := Lib.hid h3
  have O1 := Lib.hid ho1
  have O3 := Lib.hid ho3
  generalize s.sure.getD k ⟨#[]⟩ = g0 at *
  clear h h1 h3 ho1 ho3 hb hx ok
  cases hm : (mget s.now (k : Int)).isSome
  · rw [hm] at hlook HP
    generalize (mget s.now (k : Int)).getD ⟨#[]⟩ = g at *
    go_enter Tryz.func29, Tryz.ntmps29
    go_wp2_with ((with_reducible refine HA.out.mono ?_); rintro e w' ⟨rfl, rfl⟩)
    go_ret
    exact ⟨rfl, _, ⟨sb, nb, rv, by rw [HP.out]; exact H1.out, rfl⟩, O1.out.mono (by simp [dfp]), fun y hy => .inl hy⟩
  · rw [hm] at hlook HP
    generalize (mget s.now (k : Int)).getD ⟨#[]⟩ = g at *
    go_enter Tryz.func29, Tryz.ntmps29
    go_wp2_with ((with_reducible refine HA.out.mono ?_); rintro e w' ⟨rfl, rfl⟩)
    go_ret
    exact ⟨rfl, _, ⟨sb, nb, rv, by rw [HP.out]; exact H3.out, rfl⟩, (O1.out.mono (by simp [dfp])).trans (O3.out.mono (by simp [dfp])), fun y hy => .inl hy⟩

end Go.Proofs.YtimpjlnbbdfehaaGreatDoor
namespace Go.Proofs.YtimpjlnbbdfehaaGreatDoor
open Go.RowKit Go.Shelf Go.Lib Go.Sort
set_option linter.unusedVariables false
attribute [local go_sem ↓] shr_32_1 shl_32_1 shr_32_2 shl_32_2 shr_32_3 shl_32_3 shr_32_4 shl_32_4 shr_32_5 shl_32_5 shr_32_6 shl_32_6 shr_32_7 shl_32_7 shr_32_8 shl_32_8 shr_32_9 shl_32_9 shr_32_10 shl_32_10 shr_32_11 shl_32_11 shr_32_12 shl_32_12 shr_32_13 shl_32_13 shr_32_14 shl_32_14 shr_32_15 shl_32_15 shr_32_16 shl_32_16 shr_32_17 shl_32_17 shr_32_18 shl_32_18 shr_32_19 shl_32_19 shr_32_20 shl_32_20 shr_32_21 shl_32_21 shr_32_22 shl_32_22 shr_32_23 shl_32_23 shr_32_24 shl_32_24 shr_32_25 shl_32_25 shr_32_26 shl_32_26 shr_32_27 shl_32_27 shr_32_28 shl_32_28 shr_32_29 shl_32_29 shr_32_30 shl_32_30 shr_32_31 shl_32_31 shr_64_3 shl_64_3 shr_64_7 shl_64_7 shr_64_8 shl_64_8 shr_64_16 shl_64_16 shr_64_24 shl_64_24 shr_64_32 shl_64_32 shr_64_40 shl_64_40 shr_64_48 shl_64_48 shr_64_56 shl_64_56
attribute [local go_sem] add_u32 add_u64 and_u8 or_u8 xor_u8 and_u32 or_u32 xor_u32 and_u64 or_u64 xor_u64 conv_32_8 conv_64_8 conv_64_32 conv_8_32 conv_8_64 conv_32_64


/-! ### slices.Repeat of one text; a new disk -/
theorem wp_copy_rows {w : World} {o : Oper} {a : Act} {K : Act → World → Prop} {Q : Exit → Act → World → Prop} (d x : Operand) (T elem : TypeId)
    (ho : o.op = .call { callee := .builtin .copy, args := #[d, x], argTypes := #[T, T] }) (hu : Tryz.prog.underlying T = some (.slice elem)) (hs : (Tryz.prog.info? elem).map (·.size) = some 1)
    (g off dLen dCap : Nat) (ad : Addr) (sLen sCap : Nat) (cur : Array Value) (t : TypeId) (cs : List Value) (hd : a.eval d = .slice (some ⟨g, off, none⟩) dLen dCap) (hx : a.eval x = .slice (some ad) sLen sCap)
    (hg : Blk w g t cur) (hn : cs.length = Nat.min sLen dLen) (hsrc : ∀ j v, cs[j]? = some v → w.cell? (ad.add j) = some v) (hfit : off + cs.length ≤ cur.size) (h1 : ∀ v ∈ cs, v.oneCell' = true) (ds : Array Value) (hds : (cur.toList.take off ++ cs ++ cur.toList.drop (off + cs.length)).toArray = ds)
    (hK : K (a.put o.dst (goInt cs.length)) (w.setRow g ds)) : o.wp Tryz.prog a w K Q := by
  subst hds
  have hrun := run_copy_row (P := Tryz.prog) w T T o.type elem g off dLen dCap ad sLen sCap cur t cs hu hs hg hn hsrc hfit h1
  unfold Oper.wp execOp
  simp only [ho, resolve, invoke, builtin, Sem.run_bind, Sem.run_pure, Result.andThen_ok, List.map_toArray, List.map_cons, List.map_nil, hd, hx, hrun]
  exact hK
theorem wpList_copy_rows {w : World} {ops : Array Oper} {rest : List Oper} {o : Oper} {a : Act} {Q : Exit → Act → World → Prop} (hgd : o.guard = none) (d x : Operand) (T elem : TypeId)
    (ho : o.op = .call { callee := .builtin .copy, args := #[d, x], argTypes := #[T, T] }) (hu : Tryz.prog.underlying T = some (.slice elem)) (hs : (Tryz.prog.info? elem).map (·.size) = some 1)
    (g off dLen dCap : Nat) (ad : Addr) (sLen sCap : Nat) (cur : Array Value) (t : TypeId) (cs : List Value) (hd : a.eval d = .slice (some ⟨g, off, none⟩) dLen dCap) (hx : a.eval x = .slice (some ad) sLen sCap)
    (hg : Blk w g t cur) (hn : cs.length = Nat.min sLen dLen) (hsrc : ∀ j v, cs[j]? = some v → w.cell? (ad.add j) = some v) (hfit : off + cs.length ≤ cur.size) (h1 : ∀ v ∈ cs, v.oneCell' = true) (ds : Array Value) (hds : (cur.toList.take off ++ cs ++ cur.toList.drop (off + cs.length)).toArray = ds)
    (hK : wpList Tryz.prog ops Q rest (a.put o.dst (goInt cs.length)) (w.setRow g ds)) : wpList Tryz.prog ops Q (o :: rest) a w :=
  wpList_plain hgd fun _ hK' => wp_copy_rows d x T elem ho hu hs g off dLen dCap ad sLen sCap cur t cs hd hx hg hn hsrc hfit h1 ds hds (hK' _ _ hK)
theorem info9 : (Tryz.prog.info? 9).map (fun i => (i.zero, i.size, i.bytes)) = some (some (.string ⟨#[]⟩), 1, 16) := by kernel_rfl
theorem size9 : (Tryz.prog.info? 9).map (·.size) = some 1 := by kernel_rfl
/-- A row that is filled up to a place. -/
def fillC (z : ByteArray) (n c : Nat) : List Value := List.replicate n (.string z) ++ List.replicate (c - n) (.string ⟨#[]⟩)
theorem fillC_len (z : ByteArray) (n c : Nat) (h : n ≤ c) : (fillC z n c).length = c := by simp [fillC]; omega
theorem fill_take (z : ByteArray) (n c : Nat) : (fillC z n c).take n = List.replicate n (.string z) := by
  unfold fillC; rw [List.take_append_of_le_length (by simp), List.take_of_length_le (by simp)]
theorem fill_step (z : ByteArray) (n m c : Nat) (hn : n + m ≤ c) : (fillC z n c).take n ++ List.replicate m (.string z) ++ (fillC z n c).drop (n + m) = fillC z (n + m) c := by
  rw [fill_take]
  unfold fillC
  rw [List.drop_append, List.drop_of_length_le (by simp), List.length_replicate, List.drop_replicate, List.nil_append, List.replicate_append_replicate]
  congr 2
  omega
theorem made_fill (c : Nat) (z : ByteArray) : (madeCells #[.string ⟨#[]⟩] c).toList = fillC z 0 c := by
  apply List.ext_getElem
  · simp [size_madeCells, fillC]
  · intro i h1 h2
    simp [madeCells, fillC, Nat.mod_one]
theorem fill_get (z : ByteArray) (n c j : Nat) (h : j < n) : (fillC z n c)[j]? = some (.string z) := by
  unfold fillC
  rw [List.getElem?_append_left (by simpa using h)]
  simp [h]
theorem fill_full (z : ByteArray) (c : Nat) : (fillC z c c).toArray = strs (List.replicate c z) := by
  simp [fillC, strs]

set_option maxHeartbeats 4000000 in
set_option maxRecDepth 100000 in
theorem repeat_ok (z : ByteArray) (c : Nat) (h1 : 1 ≤ c) (hc : c ≤ 100000) (w : World) (ad : Addr) (cap : Nat) (hx : w.cell? ad = some (.string z)) (had : ad.block < w.heap.size) :
    Calls Tryz.prog 104 #[.slice (some ad) 1 cap, .int .i64 (c : Int)] w fun e w' => e = .returned (.slice (some ⟨w.heap.size, 0, none⟩) c c) ∧ Blk w' w.heap.size 9 (strs (List.replicate c z)) ∧ Below w.heap.size w w' := by
  obtain ⟨i9, hi, hz0, hz1, hz2⟩ := info_parts info9
  have HMUL : Hid (∀ w, Calls Tryz.prog 143 #[.int .u64 1, .int .u64 (c : Int)] w fun e w' => e = .returned (.tuple #[.int .u64 0, .int .u64 (c : Int)]) ∧ w = w') := fun w =>
    (Tryz.bits_Mul 1 c (by omega) (by omega) w).mono fun e w' ⟨he, hw⟩ => ⟨by
      have e1 : (1 * c / 18446744073709551616 : Nat) = 0 := by omega
      have e2 : (1 * c % 18446744073709551616 : Nat) = c := by omega
      rw [e1, e2] at he
      exact he, hw.symm⟩
  have HM : Hid (Blk (w.alloc (.cells (madeCells #[.string ⟨#[]⟩] c) 9)) w.heap.size 9 (madeCells #[.string ⟨#[]⟩] c)) := Blk.new _ _ _
  have HS : Hid ((madeCells #[.string ⟨#[]⟩] c).size = c) := by show _ = _; rw [size_madeCells]; try simp
  have HT : Hid ((madeCells #[.string ⟨#[]⟩] c).toList = fillC z 0 c) := made_fill c z
  have HX : Hid ((w.alloc (.cells (madeCells #[.string ⟨#[]⟩] c) 9)).cell? ad = some (.string z)) := ((Below.refl w.heap.size w).alloc (Nat.le_refl _) _).cell had |>.trans hx
  have HB : Hid (Below w.heap.size w (w.alloc (.cells (madeCells #[.string ⟨#[]⟩] c) 9))) := (Below.refl _ _).alloc (Nat.le_refl _) _
  have w1 : IntKind.u64.wrap (c : Int) = (c : Int) := by rw [wrap_u64]; omega
  have w2 : IntKind.i64.wrap (c : Int) = (c : Int) := wrap_in _ (by omega) (by omega)
  have hlt : decide ((9223372036854775807 : Int) < (c : Int)) = false := by simp; omega
  have hneg : decide ((c : Int) < 0) = false := by simp
  have HC1 := Lib.hid h1
  have HC := Lib.hid hc
  have HMIN : Hid ([Value.string z].length = Nat.min 1 c) := by show 1 = Nat.min 1 c; exact (Nat.min_eq_left h1).symm
  have HFIT : Hid (0 + [Value.string z].length ≤ c) := by show 0 + 1 ≤ c; omega
  have HSRC : Hid (∀ j v, [Value.string z][j]? = some v → (w.alloc (.cells (madeCells #[.string ⟨#[]⟩] c) 9)).cell? (ad.add j) = some v) := fun j v hj => by
    have hl := (List.getElem?_eq_some_iff.1 hj).1
    have : j = 0 := by simpa using hl
    subst this
    simp at hj
    subst hj
    have e : ad.add 0 = ad := by unfold Addr.add; rfl
    rw [e]
    exact HX.out
  have HDS : Hid (((madeCells #[.string ⟨#[]⟩] c).toList.take 0 ++ [Value.string z] ++ (madeCells #[.string ⟨#[]⟩] c).toList.drop (0 + [Value.string z].length)).toArray = (fillC z 1 c).toArray) := by
    show _ = _
    rw [HT.out, show (fillC z 0 c).take 0 ++ [.string z] ++ (fillC z 0 c).drop (0 + [Value.string z].length) = fillC z 1 c from fill_step z 0 1 c h1]
  have HB0 : Hid (Blk ((w.alloc (.cells (madeCells #[.string ⟨#[]⟩] c) 9)).setRow w.heap.size (fillC z 1 c).toArray) w.heap.size 9 (fillC z 1 c).toArray) := HM.out.row _
  have HB1 : Hid (Below w.heap.size w ((w.alloc (.cells (madeCells #[.string ⟨#[]⟩] c) 9)).setRow w.heap.size (fillC z 1 c).toArray)) := below_setRow HB.out (Nat.le_refl _) _
  clear h1 hc hx had
  go_enter Tryz.func104, Tryz.ntmps104
  go_wp2_with (first
    | ((with_reducible refine (HMUL.out _).mono ?_); rintro e w' ⟨rfl, rfl⟩)
    | (refine wpList_make_row _ rfl (.tmp 29) (.tmp 29) 131 rfl 9 i9 (.string ⟨#[]⟩) Tryz.underlying131 hi hz0 hz1 rfl .i64 .i64 c (by rfl) (by rfl) (by rw [hz2]; have := HC.out; omega) (by have := HC.out; omega) ?_)
    | (refine wpList_copy_rows rfl (.tmp 31) (.tmp 32) 131 9 rfl Tryz.underlying131 size9 w.heap.size 0 c c ad 1 cap _ 9 [.string z] (by rfl) (by rfl) HM.out (HMIN.out) HSRC.out (by rw [HS.out]; exact HFIT.out) (by simp [Value.oneCell']) _ HDS.out ?_))

  generalize (w.alloc (.cells (madeCells #[.string ⟨#[]⟩] c) 9)).setRow w.heap.size (fillC z 1 c).toArray = w0 at *
  clear HM HS HT HX HB HSRC HFIT HMIN HDS hi hz0 hz1 hz2
  go_loopg [8] (c - 1 : Nat) (fun q n wr => ∃ m : Nat, 1 ≤ m ∧ m ≤ c ∧ q + m = c ∧ n = .int .i64 (m : Int) ∧ Blk wr w.heap.size 9 (fillC z m c).toArray ∧ Below w.heap.size w wr)
  case atStart => exact ⟨1, Nat.le_refl _, HC1.out, by have := HC1.out; omega, rfl, HB0.out, HB1.out⟩
  case round =>
    obtain ⟨m, hm1, hmc, hq, rfl, hb, hB⟩ := hrel
    have HBK := Lib.hid hb
    have HBL := Lib.hid hB
    clear hb hB HB0 HB1
    by_cases hlt : m < c
    · have hne : ¬ c = m := by omega
      have w5 : IntKind.i64.wrap (m : Int) = (m : Int) := wrap_in _ (by have := HC.out; omega) (by have := HC.out; omega)
      obtain ⟨p, hp⟩ : ∃ p, p = min m (c - m) := ⟨_, rfl⟩
      have hp1 : 1 ≤ p := by omega
      have w6 : IntKind.i64.wrap ((m : Int) + (p : Int)) = ((m + p : Nat) : Int) := wrap_in _ (by omega) (by have := HC.out; omega)
      have HP1 : Hid ((List.replicate p (Value.string z)).length = Nat.min m (c - m)) := by show _ = _; rw [List.length_replicate]; exact hp
      have HP2 : Hid (∀ j v, (List.replicate p (Value.string z))[j]? = some v → wr.drew.cell? ((⟨w.heap.size, 0, none⟩ : Addr).add j) = some v) := fun j v hj => by
        have hl := (List.getElem?_eq_some_iff.1 hj).1
        rw [List.length_replicate] at hl
        rw [List.getElem?_replicate, if_pos hl] at hj
        rw [add_at]
        exact (HBK.out.drew.cell _).trans (by rw [← hj]; simpa using fill_get z m c j (by omega))
      have HP3 : Hid (m + (List.replicate p (Value.string z)).length ≤ (fillC z m c).toArray.size) := by show _ ≤ _; rw [List.length_replicate, List.size_toArray, fillC_len _ _ _ hmc]; omega
      have HP4 : Hid (∀ v ∈ List.replicate p (Value.string z), v.oneCell' = true) := fun v hv => by rw [List.eq_of_mem_replicate hv]; rfl
      have HP5 : Hid (((fillC z m c).toArray.toList.take m ++ List.replicate p (Value.string z) ++ (fillC z m c).toArray.toList.drop (m + (List.replicate p (Value.string z)).length)).toArray = (fillC z (m + p) c).toArray) := by
        show _ = _
        rw [List.length_replicate]
        exact congrArg _ (fill_step z m p c (by omega))
      have HP6 : Hid ((List.replicate p (Value.string z)).length = p) := List.length_replicate
      have hp3 : m + p ≤ c := by omega
      clear hp
      go_wp2_with fail
      refine wp_region_plan (fun w' => True) 8 [(true, 0), (true, 1), (true, 2), (true, 3), (true, 4), (true, 5), (true, 6), (false, 7)] (by kernel_rfl) (by kernel_rfl) trivial ?_
      simp only [List.map_cons, List.map_nil, List.getD_cons_zero, List.getD_cons_succ, List.drop_succ_cons, List.drop_zero]
      (refine plan_take (v := ?_) rfl ?_ ?_; rotate_left; (intro wS hSw; (try dsimp only at hSw); go_simp; try with_reducible rfl); simp only [Act.put, List.setIfInBounds_toArray, List.set_cons_zero, List.set_cons_succ])
      (refine plan_take (v := ?_) rfl ?_ ?_; rotate_left; (intro wS hSw; (try dsimp only at hSw); go_simp; try with_reducible rfl); simp only [Act.put, List.setIfInBounds_toArray, List.set_cons_zero, List.set_cons_succ])
      (refine plan_take (v := ?_) rfl ?_ ?_; rotate_left; (intro wS hSw; (try dsimp only at hSw); go_simp; try with_reducible rfl); simp only [Act.put, List.setIfInBounds_toArray, List.set_cons_zero, List.set_cons_succ])
      (refine plan_take (v := ?_) rfl ?_ ?_; rotate_left; (intro wS hSw; (try dsimp only at hSw); go_simp; try with_reducible rfl); simp only [Act.put, List.setIfInBounds_toArray, List.set_cons_zero, List.set_cons_succ])
      (refine plan_take (v := ?_) rfl ?_ ?_; rotate_left; (intro wS hSw; (try dsimp only at hSw); go_simp; try with_reducible rfl); simp only [Act.put, List.setIfInBounds_toArray, List.set_cons_zero, List.set_cons_succ])
      (refine plan_take (v := ?_) rfl ?_ ?_; rotate_left; (intro wS hSw; (try dsimp only at hSw); go_simp; try with_reducible rfl); simp only [Act.put, List.setIfInBounds_toArray, List.set_cons_zero, List.set_cons_succ])
      (refine plan_take (v := ?_) rfl ?_ ?_; rotate_left; (intro wS hSw; (try dsimp only at hSw); go_simp; try with_reducible rfl); simp only [Act.put, List.setIfInBounds_toArray, List.set_cons_zero, List.set_cons_succ])
      refine plan_run rfl (fun K hK => ?_)
      refine wp_copy_rows (.tmp 41) (.tmp 44) 131 9 rfl Tryz.underlying131 size9 w.heap.size m (c - m) (c - m) ⟨w.heap.size, 0, none⟩ m c _ 9 (List.replicate p (.string z)) (by rfl) (by rfl) HBK.out.drew HP1.out HP2.out HP3.out HP4.out _ HP5.out ?_
      refine hK.out _ _ trivial ?_
      clear hK K
      try simp only [Act.put, List.setIfInBounds_toArray, List.set_cons_zero, List.set_cons_succ]
      rw [HP6.out]
      refine plan_nil ?_
      go_wp2_with fail
      refine NoPanic.normal ?_
      go_wp2
      go_roundg (gk - p)
      case measure => omega
      case rel => exact ⟨m + p, by omega, by omega, by omega, rfl, HBK.out.drew.row _, below_setRow HBL.out.drew (Nat.le_refl _) _⟩
    · obtain rfl : m = c := by omega
      have HE : Hid ((fillC z m m).toArray = strs (List.replicate m z)) := fill_full z m
      rw [HE.out] at HBK
      go_wp2
      go_ret
      exact ⟨rfl, HBK.out, HBL.out⟩

end Go.Proofs.YtimpjlnbbdfehaaGreatDoor
namespace Go.Proofs.YtimpjlnbbdfehaaGreatDoor
open Go.RowKit Go.Shelf Go.Lib Go.Sort
set_option linter.unusedVariables false
attribute [local go_sem ↓] shr_32_1 shl_32_1 shr_32_2 shl_32_2 shr_32_3 shl_32_3 shr_32_4 shl_32_4 shr_32_5 shl_32_5 shr_32_6 shl_32_6 shr_32_7 shl_32_7 shr_32_8 shl_32_8 shr_32_9 shl_32_9 shr_32_10 shl_32_10 shr_32_11 shl_32_11 shr_32_12 shl_32_12 shr_32_13 shl_32_13 shr_32_14 shl_32_14 shr_32_15 shl_32_15 shr_32_16 shl_32_16 shr_32_17 shl_32_17 shr_32_18 shl_32_18 shr_32_19 shl_32_19 shr_32_20 shl_32_20 shr_32_21 shl_32_21 shr_32_22 shl_32_22 shr_32_23 shl_32_23 shr_32_24 shl_32_24 shr_32_25 shl_32_25 shr_32_26 shl_32_26 shr_32_27 shl_32_27 shr_32_28 shl_32_28 shr_32_29 shl_32_29 shr_32_30 shl_32_30 shr_32_31 shl_32_31 shr_64_3 shl_64_3 shr_64_7 shl_64_7 shr_64_8 shl_64_8 shr_64_16 shl_64_16 shr_64_24 shl_64_24 shr_64_32 shl_64_32 shr_64_40 shl_64_40 shr_64_48 shl_64_48 shr_64_56 shl_64_56
attribute [local go_sem] add_u32 add_u64 and_u8 or_u8 xor_u8 and_u32 or_u32 xor_u32 and_u64 or_u64 xor_u64 conv_32_8 conv_64_8 conv_64_32 conv_8_32 conv_8_64 conv_32_64

set_option maxHeartbeats 1000000 in
set_option maxRecDepth 100000 in
theorem zero_ok (w : World) : Calls Tryz.prog 105 #[] w fun e w' => e = .returned (.string (zeroB 512)) ∧ Below w.heap.size w w' := by
  have HZ : Hid (Calls Tryz.prog 108 #[.string ⟨#[0]⟩, .int .i64 512] w fun e w' => e = .returned (.string (zeroB 512)) ∧ Below w.heap.size w w') := Tryz.strings_Repeat_main ⟨#[0]⟩ 512 w (by omega) (by omega) (by decide) (by decide)
  go_enter Tryz.func105, Tryz.ntmps105
  go_wp2_with ((with_reducible refine HZ.out.mono ?_); rintro e w' ⟨rfl, hb⟩)
  go_ret
  exact ⟨rfl, hb⟩
set_option maxHeartbeats 1000000 in
set_option maxRecDepth 100000 in
theorem clone_cut_nil (w : World) : Calls Tryz.prog 106 #[.slice none 0 0] w fun e w' => e = .returned (.slice none 0 0) ∧ w = w' := by
  have hq := fun w => run_eql_nil_slice (P := Tryz.prog) w 133 189 none 0 0 0 0 Tryz.underlying133
  go_enter Tryz.func106, Tryz.ntmps106
  go_wp2
  go_ret
  exact ⟨rfl, rfl⟩
/-- A new disk. -/
def DS.new (n : Nat) : DS := ⟨List.replicate n (zeroB 512), [], [], 0⟩
theorem DS.new_ok (n : Nat) (h : n ≤ 100000) : (DS.new n).ok := ⟨by simpa [DS.new] using h, Nat.le_refl _, by simp [DS.new], fun x hx => by rw [List.eq_of_mem_replicate hx]; exact zeroB_size _, fun p hp => by cases hp⟩
/-- What a call makes. -/
def Makes (R : World → List Nat → Prop) (w : World) (v : Value) (e : Ending) (w' : World) : Prop := e = .returned v ∧ ∃ F', R w' F' ∧ Below w.heap.size w w' ∧ (∀ x ∈ F', w.heap.size ≤ x)
def NewDisk (n : Nat) (w : World) (e : Ending) (w' : World) : Prop := ∃ d, e = .returned (.tuple #[.pointer (some ⟨d, 0, none⟩), .int .i64 0]) ∧ ∃ F', DiskR w' d (DS.new n) F' ∧ Below w.heap.size w w' ∧ (∀ x ∈ F', w.heap.size ≤ x)
set_option maxHeartbeats 2000000 in
set_option maxRecDepth 100000 in
theorem dnew_ok (n : Nat) (h1 : 1 ≤ n) (h2 : n ≤ 4096) (w : World) (hw : 0 < w.heap.size) : Calls Tryz.prog 58 #[.int .i64 (n : Int), .slice none 0 0] w (NewDisk n w) := by
  have HZ := Lib.hid (zero_ok w)
  have HC := Lib.hid (fun w => clone_cut_nil w)
  have HR := Lib.hid (fun w ad cap hx had => repeat_ok (zeroB 512) n h1 (by omega) w ad cap hx had)
  have d1 : decide ((n : Int) < 1) = false := by simp; omega
  have d2 : decide ((4096 : Int) < (n : Int)) = false := by simp; omega
  have HW := Lib.hid hw
  clear hw h1 h2
  have hmm := @run_makeMap Tryz.prog
  go_enter Tryz.func58, Tryz.ntmps58
  go_wp2_with fail
  refine HZ.out.mono ?_
  rintro e w1 ⟨rfl, hb1⟩
  have HB1 := Lib.hid hb1
  clear hb1 HZ
  have HN : Hid (DS.new n = ⟨List.replicate n (zeroB 512), [], [], 0⟩) := rfl
  generalize zeroB 512 = z at *
  go_wp2_with fail
  refine (HR.out _ ⟨w1.heap.size, 0, none⟩ 1 ((Blk.new w1 9 #[.string z]).cell 0) (by simp)).mono ?_
  rintro e w2 ⟨rfl, hb, hb2⟩
  have HB2 := Lib.hid hb2
  have HBK := Lib.hid hb
  clear hb hb2 HR
  go_wp2_with ((with_reducible refine (HC.out _).mono ?_); rintro e w' ⟨rfl, rfl⟩)
  have e1 : (w1.alloc (.cells #[.string z] 9)).heap.size = w1.heap.size + 1 := by simp
  have hb0 : Below w.heap.size w (w1.alloc (.cells #[.string z] 9)) := HB1.out.alloc HB1.out.size _
  have hb1 : Below w.heap.size w w2 := hb0.trans (HB2.out.mono hb0.size)
  have hb2 : Below w.heap.size w (w2.alloc (.map #[] 0)) := hb1.alloc hb1.size _
  have hb3 := hb2.alloc hb2.size (.cells #[.slice (some ⟨w1.heap.size + 1, 0, none⟩) n n, .map (some w2.heap.size), .slice none 0 0, .int .i64 0, .slice none 0 0, .bool false] 135)
  have hO := ((Only.refl w2 []).alloc (.map #[] 0)).alloc (.cells #[.slice (some ⟨w1.heap.size + 1, 0, none⟩) n n, .map (some w2.heap.size), .slice none 0 0, .int .i64 0, .slice none 0 0, .bool false] 135)
  have hs1 : w.heap.size ≤ w1.heap.size := HB1.out.size
  have hs2 : w.heap.size ≤ w2.heap.size := hb1.size
  have hw := HW.out
  go_ret2
  refine ⟨_, rfl, _, ⟨w1.heap.size + 1, w2.heap.size, .slice none 0 0, ⟨?_, ?_, ?_, ?_, ?_, ?_, ?_⟩, rfl⟩, hb3, ?_⟩
  · rw [show (DS.new n).sure.length = n by simp [DS.new]]
    exact blk_new1 w2 _ 135 _
  · rw [HN.out]
    have hbk := HBK.out
    rw [e1] at hbk
    exact hO.blk hbk (by simp)
  · exact ((MapR.new Tryz.prog 3 ki Value.string w2).only (S := []) ((Only.refl _ _).alloc _) (by simp))
  · exact Mid.nil _ _ _ _
  · omega
  · omega
  · omega
  · intro x hx
    simp [dfp, Value.ownBlock] at hx
    omega

end Go.Proofs.YtimpjlnbbdfehaaGreatDoor
namespace Go.Proofs.YtimpjlnbbdfehaaGreatDoor
open Go.RowKit Go.Shelf Go.Lib Go.Sort
set_option linter.unusedVariables false
attribute [local go_sem ↓] shr_32_1 shl_32_1 shr_32_2 shl_32_2 shr_32_3 shl_32_3 shr_32_4 shl_32_4 shr_32_5 shl_32_5 shr_32_6 shl_32_6 shr_32_7 shl_32_7 shr_32_8 shl_32_8 shr_32_9 shl_32_9 shr_32_10 shl_32_10 shr_32_11 shl_32_11 shr_32_12 shl_32_12 shr_32_13 shl_32_13 shr_32_14 shl_32_14 shr_32_15 shl_32_15 shr_32_16 shl_32_16 shr_32_17 shl_32_17 shr_32_18 shl_32_18 shr_32_19 shl_32_19 shr_32_20 shl_32_20 shr_32_21 shl_32_21 shr_32_22 shl_32_22 shr_32_23 shl_32_23 shr_32_24 shl_32_24 shr_32_25 shl_32_25 shr_32_26 shl_32_26 shr_32_27 shl_32_27 shr_32_28 shl_32_28 shr_32_29 shl_32_29 shr_32_30 shl_32_30 shr_32_31 shl_32_31 shr_64_3 shl_64_3 shr_64_7 shl_64_7 shr_64_8 shl_64_8 shr_64_16 shl_64_16 shr_64_24 shl_64_24 shr_64_32 shl_64_32 shr_64_40 shl_64_40 shr_64_48 shl_64_48 shr_64_56 shl_64_56
attribute [local go_sem] add_u32 add_u64 and_u8 or_u8 xor_u8 and_u32 or_u32 xor_u32 and_u64 or_u64 xor_u64 conv_32_8 conv_64_8 conv_64_32 conv_8_32 conv_8_64 conv_32_64

theorem Salts.only {w w' : World} {S : List Nat} (h : Salts w) (ho : Only w w' S) (hS : ∀ x ∈ S, 0 < x) : Salts w' :=
  ⟨Nat.lt_of_lt_of_le h.1 ho.size, fun i hi => (ho.cell (p := ⟨0, i, none⟩) h.1 (fun hm => by have := hS 0 hm; omega)).trans (h.2 i hi)⟩
/-! ### A device -/
structure VS where
  key : ByteArray
  reg : ByteArray
  ctr : UInt64
def DevC (w : World) (v d : Nat) (s : VS) : Prop := Blk w v 150 #[.string s.key, .string s.reg, .int .u64 (n64 s.ctr), .pointer (some ⟨d, 0, none⟩)] ∧ 0 < v
set_option maxHeartbeats 400000 in
theorem key_ok {w : World} {v d : Nat} {s : VS} (h : DevC w v d s) : Calls Tryz.prog 64 #[.pointer (some ⟨v, 0, none⟩)] w fun e w' => e = .returned (.string s.key) ∧ w = w' := by
  have c0 := h.1.cell 0
  go_enter Tryz.func64, Tryz.ntmps64
  go_wp2
  go_ret
  exact ⟨rfl, rfl⟩
set_option maxHeartbeats 400000 in
theorem counter_ok {w : World} {v d : Nat} {s : VS} (h : DevC w v d s) : Calls Tryz.prog 27 #[.pointer (some ⟨v, 0, none⟩)] w fun e w' => e = .returned (.int .u64 (n64 s.ctr)) ∧ w = w' := by
  have c0 := h.1.cell 2
  go_enter Tryz.func27, Tryz.ntmps27
  go_wp2
  go_ret
  exact ⟨rfl, rfl⟩
def VS.bump (s : VS) (r : ByteArray) : VS := ⟨s.key, r, s.ctr + 1⟩
theorem n64_one : n64 1 = 1 := rfl
set_option maxHeartbeats 1000000 in
set_option maxRecDepth 100000 in
theorem bump_ok {w : World} {v d sb nb : Nat} {rv : Value} {s : VS} {ds : DS} (h : DevC w v d s) (hd : DiskC w d sb nb rv ds) (ha : ds.acts ≤ 1000000) (r : ByteArray) (hr : r.size = 33) :
    Calls Tryz.prog 25 #[.pointer (some ⟨v, 0, none⟩), .string r] w fun e w' => e = .returned (.int .i64 0) ∧ DevC w' v d (s.bump r) ∧ DiskC w' d sb nb rv ds.act ∧ Only w w' [v, d] := by
  have hr1 : ((r.size : Int) != 33) = false := by simp [hr]
  have hne : v ≠ d := Blk.ne_ h.1 hd.box (by decide)
  have hvs : v ≠ sb := Blk.ne_ h.1 hd.sure (by decide)
  have hvn : nb ≠ v := hd.now.ne_blk h.1
  have hvr : rv.ownBlock ≠ some v := hd.row.ne_blk h.1 (by decide)
  have HC := Lib.hid (act_ok2 hd ha)
  have c3 := h.1.cell 3
  have H := Lib.hid h
  have h64 : IntKind.u64.wrap (n64 s.ctr + 1) = n64 (s.ctr + 1) := add_u64 s.ctr 1
  clear h hd hr
  go_enter Tryz.func25, Tryz.ntmps25
  go_wp2_with fail
  refine HC.out.mono ?_
  rintro e w1 ⟨rfl, hD, hO⟩
  have hb : Blk w1 v 150 _ := hO.blk H.out.1 (by simpa using hne)
  have k1 := hb.cell 1
  have k2 := hb.cell 2
  have f1 := hb.frozen 1
  have f2 := hb.frozen 2
  have HB := Lib.hid hb
  have HD := Lib.hid hD
  have HO := Lib.hid hO
  clear hb hD hO HC
  go_wp2
  go_ret
  have hO2 : Only w1 ((w1.setCell ⟨v, 2, none⟩ (.int .u64 (n64 (s.ctr + 1)))).setCell ⟨v, 1, none⟩ (.string r)) [v] := ((Only.refl w1 [v]).setCell (List.mem_singleton.2 rfl) _).setCell (List.mem_singleton.2 rfl) _
  refine ⟨rfl, ⟨(HB.out.set_ 2 _).set_ 1 _, H.out.2⟩, HD.out.only hO2 ?_, (HO.out.mono (by simp)).trans (hO2.mono (by simp))⟩
  intro x hx e
  rw [List.mem_singleton] at e
  subst e
  simp only [dfp, List.mem_cons, Option.mem_toList] at hx
  rcases hx with e | e | e | e
  · exact hne e
  · exact hvs e
  · exact hvn e.symm
  · exact hvr e
theorem made_bytes (n : Nat) : (madeCells #[.int .u8 0] n).toList = bv (List.replicate n 0) := by
  apply List.ext_getElem
  · simp [size_madeCells, bv]
  · intro i h1 h2
    simp [madeCells, bv, Nat.mod_one]
    rfl
def VS.new (key : ByteArray) : VS := ⟨key, ⟨(List.replicate 33 0).toArray⟩, 0⟩
set_option maxHeartbeats 1000000 in
set_option maxRecDepth 100000 in
theorem vnew_ok (key : ByteArray) (hk : key.size = 32) (d : Nat) (w : World) (hw : 0 < w.heap.size) :
    Calls Tryz.prog 59 #[.string key, .pointer (some ⟨d, 0, none⟩)] w fun e w' => ∃ v, e = .returned (.tuple #[.pointer (some ⟨v, 0, none⟩), .int .i64 0]) ∧ DevC w' v d (VS.new key) ∧ Below w.heap.size w w' ∧ w.heap.size ≤ v := by
  obtain ⟨i5, hi5, hz0, hz1, hz2⟩ := info_parts info5
  have hk1 : ((key.size : Int) != 32) = false := by simp [hk]
  have HM : Hid (Blk (w.alloc (.cells (madeCells #[.int .u8 0] 33) 5)) w.heap.size 5 (madeCells #[.int .u8 0] 33)) := Blk.new _ _ _
  have hcv : (convert 57 9 (.slice (some ⟨w.heap.size, 0, none⟩) 33 33)).run Tryz.prog (w.alloc (.cells (madeCells #[.int .u8 0] 33) 5)) = .ok (.string ⟨(List.replicate 33 0).toArray⟩) (w.alloc (.cells (madeCells #[.int .u8 0] 33) 5)) := by
    have := conv_cells (w := w.alloc (.cells (madeCells #[.int .u8 0] 33) 5)) (a := ⟨w.heap.size, 0, none⟩) (cap := 33) (List.replicate 33 (0 : UInt8)) (fun j u hj => by
      rw [add_at, HM.out.cell, ← Array.getElem?_toList, made_bytes, Nat.zero_add]
      exact hj)
    exact this
  have HN : Hid (VS.new key = ⟨key, ⟨(List.replicate 33 0).toArray⟩, 0⟩) := rfl
  generalize (⟨(List.replicate 33 0).toArray⟩ : ByteArray) = rg at *
  have hb : Below w.heap.size w (w.alloc (.cells (madeCells #[.int .u8 0] 33) 5)) := (Below.refl _ _).alloc (Nat.le_refl _) _
  have HB := Lib.hid hb
  have HW := Lib.hid hw
  clear hb hk hw HM
  go_enter Tryz.func59, Tryz.ntmps59
  go_wp2_with (refine wpList_make_row _ rfl (.const (.int .i64 33)) (.const (.int .i64 33)) 57 rfl 5 i5 (.int .u8 0) Tryz.underlying57 hi5 hz0 hz1 rfl .i64 .i64 33 (by rfl) (by rfl) (by rw [hz2]; decide) (by decide) ?_)
  go_ret2
  refine ⟨_, rfl, ⟨?_, ?_⟩, HB.out.alloc HB.out.size _, by simp⟩
  · rw [HN.out]; exact blk_new1 w _ 150 _
  · omega
/-! ### A book -/
structure BkS where
  sums : List (ByteArray × ByteArray)
  a : ByteArray
  b : ByteArray
  twin : Bool
  full : Bool
structure BookC (w : World) (b nb : Nat) (s : BkS) : Prop where
  box : Blk w b 148 #[.map (some nb), .string s.a, .string s.b, .bool s.twin, .bool s.full]
  sums : MapR Tryz.prog 9 Value.string Value.string w nb s.sums
  p1 : 0 < b
  p2 : 0 < nb
def BookR (w : World) (b : Nat) (s : BkS) (F : List Nat) : Prop := ∃ nb, BookC w b nb s ∧ F = [b, nb]
theorem BookC.only {w w' : World} {b nb : Nat} {s : BkS} {S : List Nat} (h : BookC w b nb s) (ho : Only w w' S) (hd : ∀ x ∈ [b, nb], x ∉ S) : BookC w' b nb s :=
  ⟨ho.blk h.box (hd _ (by simp)), h.sums.only ho (hd _ (by simp)), h.p1, h.p2⟩
theorem BookC.ne {w : World} {b nb : Nat} {s : BkS} (h : BookC w b nb s) : nb ≠ b := h.sums.ne_blk h.box
theorem str_inj (x y : ByteArray) (h : Value.string x = Value.string y) : x = y := by injection h
theorem K9 : Maps.Keyed Tryz.prog 9 := Maps.string_keyed Tryz.underlying9
theorem key9 {x : ByteArray} (h : x.size ≤ 1000000) : ∃ l, keyOf Tryz.prog 9 (.string x) = some l := ⟨.string x.data.toList, by
  have : x.size ≤ maxLen := by unfold maxLen; omega
  simp [keyOf, mapKey, Tryz.underlying9, this]⟩
theorem BookC.look {w : World} {b nb : Nat} {s : BkS} (h : BookC w b nb s) (x : ByteArray) (hx : x.size ≤ 1000000) :
    (Instr.lookup 146 (.map (some nb)) (.string x) true).run Tryz.prog w = .ok (.tuple #[.string ((mget s.sums x).getD ⟨#[]⟩), .bool (mget s.sums x).isSome]) w := by
  rw [h.sums.look2 K9 str_inj Tryz.underlying146 (zero9 w) x (key9 hx)]
  cases mget s.sums x <;> rfl
theorem BookC.store {w : World} {b nb : Nat} {s : BkS} (h : BookC w b nb s) (x y : ByteArray) (hx : x.size ≤ 1000000) :
    ∃ w', (Instr.mapUpdate 146 (.map (some nb)) (.string x) (.string y)).run Tryz.prog w = .ok () w' ∧ BookC w' b nb { s with sums := mput s.sums x y } ∧ Only w w' [nb] := by
  obtain ⟨w', h1, h2, h3, _⟩ := h.sums.store K9 str_inj Tryz.underlying146 x y (key9 hx)
  exact ⟨w', h1, ⟨h3.blk h.box (by simpa using h.ne.symm), h2, h.p1, h.p2⟩, h3⟩
def BkS.new : BkS := ⟨[], ⟨#[]⟩, ⟨#[]⟩, false, false⟩
set_option maxHeartbeats 1000000 in
theorem bnew_ok (w : World) (hw : 0 < w.heap.size) :
    Calls Tryz.prog 60 #[] w fun e w' => ∃ b, e = .returned (.pointer (some ⟨b, 0, none⟩)) ∧ ∃ F, BookR w' b BkS.new F ∧ Below w.heap.size w w' ∧ ∀ x ∈ F, w.heap.size ≤ x := by
  have hmm := @run_makeMap Tryz.prog
  have hO := (Only.refl (w.alloc (.map #[] 0)) []).alloc (.cells #[.map (some w.heap.size), .string ⟨#[]⟩, .string ⟨#[]⟩, .bool false, .bool false] 148)
  have hb := ((Below.refl w.heap.size w).alloc (Nat.le_refl _) (.map #[] 0)).alloc (by simp) (.cells #[.map (some w.heap.size), .string ⟨#[]⟩, .string ⟨#[]⟩, .bool false, .bool false] 148)
  have HO := Lib.hid hO
  have HB := Lib.hid hb
  have HW := Lib.hid hw
  clear hO hb hw
  go_enter Tryz.func60, Tryz.ntmps60
  go_wp2
  go_ret
  refine ⟨_, rfl, _, ⟨w.heap.size, ⟨blk_new1 w _ 148 _, (MapR.new _ _ _ _ _).only HO.out (by simp), by omega, HW.out⟩, rfl⟩, HB.out, ?_⟩
  intro x hx
  simp at hx
  omega
def BkS.sum (s : BkS) (t : ByteArray) : BkS :=
  if s.twin = true then s else
  match mget s.sums (sumB t) with
  | some f => if f = t then s else { s with a := f, b := t, twin := true }
  | none => if 8192 ≤ s.sums.length then { s with full := true } else { s with sums := mput s.sums (sumB t) t }

end Go.Proofs.YtimpjlnbbdfehaaGreatDoor
namespace Go.Proofs.YtimpjlnbbdfehaaGreatDoor
open Go.RowKit Go.Shelf Go.Lib Go.Sort
set_option linter.unusedVariables false
attribute [local go_sem ↓] shr_32_1 shl_32_1 shr_32_2 shl_32_2 shr_32_3 shl_32_3 shr_32_4 shl_32_4 shr_32_5 shl_32_5 shr_32_6 shl_32_6 shr_32_7 shl_32_7 shr_32_8 shl_32_8 shr_32_9 shl_32_9 shr_32_10 shl_32_10 shr_32_11 shl_32_11 shr_32_12 shl_32_12 shr_32_13 shl_32_13 shr_32_14 shl_32_14 shr_32_15 shl_32_15 shr_32_16 shl_32_16 shr_32_17 shl_32_17 shr_32_18 shl_32_18 shr_32_19 shl_32_19 shr_32_20 shl_32_20 shr_32_21 shl_32_21 shr_32_22 shl_32_22 shr_32_23 shl_32_23 shr_32_24 shl_32_24 shr_32_25 shl_32_25 shr_32_26 shl_32_26 shr_32_27 shl_32_27 shr_32_28 shl_32_28 shr_32_29 shl_32_29 shr_32_30 shl_32_30 shr_32_31 shl_32_31 shr_64_3 shl_64_3 shr_64_7 shl_64_7 shr_64_8 shl_64_8 shr_64_16 shl_64_16 shr_64_24 shl_64_24 shr_64_32 shl_64_32 shr_64_40 shl_64_40 shr_64_48 shl_64_48 shr_64_56 shl_64_56
attribute [local go_sem] add_u32 add_u64 and_u8 or_u8 xor_u8 and_u32 or_u32 xor_u32 and_u64 or_u64 xor_u64 conv_32_8 conv_64_8 conv_64_32 conv_8_32 conv_8_64 conv_32_64

theorem BkS.sum_twin {s : BkS} {t : ByteArray} (h : s.twin = true) : s.sum t = s := by unfold BkS.sum; rw [if_pos h]
theorem BkS.sum_same {s : BkS} {t : ByteArray} (h : s.twin = false) (hm : mget s.sums (sumB t) = some t) : s.sum t = s := by
  unfold BkS.sum; rw [if_neg (by simp [h]), hm]; dsimp only; rw [if_pos rfl]
theorem BkS.sum_other {s : BkS} {t f : ByteArray} (h : s.twin = false) (hm : mget s.sums (sumB t) = some f) (hne : f ≠ t) : s.sum t = { s with a := f, b := t, twin := true } := by
  unfold BkS.sum; rw [if_neg (by simp [h]), hm]; dsimp only; rw [if_neg hne]
theorem BkS.sum_full {s : BkS} {t : ByteArray} (h : s.twin = false) (hm : mget s.sums (sumB t) = none) (hl : 8192 ≤ s.sums.length) : s.sum t = { s with full := true } := by
  unfold BkS.sum; rw [if_neg (by simp [h]), hm]; dsimp only; rw [if_pos hl]
theorem BkS.sum_new {s : BkS} {t : ByteArray} (h : s.twin = false) (hm : mget s.sums (sumB t) = none) (hl : ¬ 8192 ≤ s.sums.length) : s.sum t = { s with sums := mput s.sums (sumB t) t } := by
  unfold BkS.sum; rw [if_neg (by simp [h]), hm]; dsimp only; rw [if_neg hl]
/-- What a sum turns. -/
def Summed (w : World) (b nb : Nat) (s : BkS) (t g : ByteArray) (e : Ending) (w' : World) : Prop := e = .returned (.string g) ∧ BookC w' b nb (s.sum t) ∧ Only w w' [b, nb]
theorem BookC.box_set {w : World} {b nb : Nat} {s : BkS} (h : BookC w b nb s) {w' : World} (ho : Only w w' [b]) (s' : BkS) (hs : s'.sums = s.sums) (hb : Blk w' b 148 #[.map (some nb), .string s'.a, .string s'.b, .bool s'.twin, .bool s'.full]) : BookC w' b nb s' :=
  ⟨hb, by rw [hs]; exact h.sums.only ho (by simpa using h.ne), h.p1, h.p2⟩
theorem bool_str_ne {a b : ByteArray} (h : a ≠ b) : (a.toList == b.toList) = false := by
  rw [Lib.toList_data, Lib.toList_data, beq_eq_false_iff_ne]
  intro e
  apply h
  cases a with | mk a => cases b with | mk b => exact congrArg ByteArray.mk (Array.toList_inj.1 e)
set_option maxHeartbeats 2000000 in
set_option maxRecDepth 100000 in
theorem bsum_twin {w : World} {b nb : Nat} {s : BkS} (h : BookC w b nb s) (t : ByteArray) (ht : t.size ≤ 1000000) (hT : Salts w) (htw : s.twin = true) :
    Calls Tryz.prog 67 #[.pointer (some ⟨b, 0, none⟩), .string t] w (Summed w b nb s t (sumB t)) := by
  have HS := Lib.hid (Sum_ok t ht w hT)
  have HW := Lib.hid (BkS.sum_twin (t := t) htw)
  have H := Lib.hid h
  clear h hT ht
  go_enter Tryz.func67, Tryz.ntmps67
  go_wp2_with fail
  refine HS.out.mono ?_
  rintro e w1 ⟨rfl, hb⟩
  have hO : Only w w1 [] := Only.ofBelow hb
  have h1 := H.out.only hO (fun _ _ h => by cases h)
  have c3 := h1.box.cell 3
  rw [htw] at c3
  have H1 := Lib.hid h1
  have HO := Lib.hid hO
  clear hb hO h1 HS
  generalize sumB t = g at *
  go_wp2
  go_ret
  exact ⟨rfl, by rw [HW.out]; exact H1.out, HO.out.mono (by simp)⟩
set_option maxHeartbeats 2000000 in
set_option maxRecDepth 100000 in
theorem bsum_some {w : World} {b nb : Nat} {s : BkS} (h : BookC w b nb s) (t : ByteArray) (ht : t.size ≤ 1000000) (hT : Salts w) (htw : s.twin = false) (f : ByteArray) (hm : mget s.sums (sumB t) = some f) :
    Calls Tryz.prog 67 #[.pointer (some ⟨b, 0, none⟩), .string t] w (Summed w b nb s t (sumB t)) := by
  have HS := Lib.hid (Sum_ok t ht w hT)
  have H := Lib.hid h
  have hZ : (sumB t).size ≤ 1000000 := by rw [sumB_size]; omega
  have HL := Lib.hid (fun (w1 : World) (h1 : BookC w1 b nb s) => h1.look (sumB t) hZ)
  rw [hm] at HL
  dsimp only [Option.getD_some, Option.isSome_some] at HL
  by_cases hft : f = t
  · subst hft
    have HW := Lib.hid (BkS.sum_same htw hm)
    clear hm hZ h hT ht
    go_enter Tryz.func67, Tryz.ntmps67
    go_wp2_with fail
    refine HS.out.mono ?_
    rintro e w1 ⟨rfl, hb⟩
    have hO : Only w w1 [] := Only.ofBelow hb
    have h1 := H.out.only hO (fun _ _ h => by cases h)
    have c3 := h1.box.cell 3
    rw [htw] at c3
    have c0 := h1.box.cell 0
    have hl := HL.out w1 h1
    have H1 := Lib.hid h1
    have HO := Lib.hid hO
    clear hb hO h1 HS HL
    generalize sumB f = g at *
    go_wp2
    go_ret
    exact ⟨rfl, by rw [HW.out]; exact H1.out, HO.out.mono (by simp)⟩
  · have HW := Lib.hid (BkS.sum_other htw hm hft)
    have hne := bool_str_ne hft
    clear hm hZ h hT ht hft
    go_enter Tryz.func67, Tryz.ntmps67
    go_wp2_with fail
    refine HS.out.mono ?_
    rintro e w1 ⟨rfl, hb⟩
    have hO : Only w w1 [] := Only.ofBelow hb
    have h1 := H.out.only hO (fun _ _ h => by cases h)
    have c3 := h1.box.cell 3
    rw [htw] at c3
    have c0 := h1.box.cell 0
    have c1 := h1.box.cell 1
    have c2 := h1.box.cell 2
    have f1 := h1.box.frozen 1
    have f2 := h1.box.frozen 2
    have f3 := h1.box.frozen 3
    have hl := HL.out w1 h1
    have H1 := Lib.hid h1
    have HO := Lib.hid hO
    clear hb hO h1 HS HL
    generalize sumB t = g at *
    go_wp2
    go_ret
    have hO2 : Only w1 (((w1.setCell ⟨b, 1, none⟩ (.string f)).setCell ⟨b, 2, none⟩ (.string t)).setCell ⟨b, 3, none⟩ (.bool true)) [b] := (((Only.refl w1 [b]).setCell (List.mem_singleton.2 rfl) _).setCell (List.mem_singleton.2 rfl) _).setCell (List.mem_singleton.2 rfl) _
    refine ⟨rfl, ?_, (HO.out.mono (by simp)).trans (hO2.mono (by simp))⟩
    rw [HW.out]
    exact H1.out.box_set hO2 _ rfl (((H1.out.box.set_ 1 _).set_ 2 _).set_ 3 _)
set_option maxHeartbeats 2000000 in
set_option maxRecDepth 100000 in
theorem bsum_none {w : World} {b nb : Nat} {s : BkS} (h : BookC w b nb s) (t : ByteArray) (ht : t.size ≤ 1000000) (hT : Salts w) (htw : s.twin = false) (hm : mget s.sums (sumB t) = none) :
    Calls Tryz.prog 67 #[.pointer (some ⟨b, 0, none⟩), .string t] w (Summed w b nb s t (sumB t)) := by
  have HS := Lib.hid (Sum_ok t ht w hT)
  have H := Lib.hid h
  have hZ : (sumB t).size ≤ 1000000 := by rw [sumB_size]; omega
  have HL := Lib.hid (fun (w1 : World) (h1 : BookC w1 b nb s) => h1.look (sumB t) hZ)
  rw [hm] at HL
  dsimp only [Option.getD_none, Option.isSome_none] at HL
  by_cases hl8 : 8192 ≤ s.sums.length
  · have HW := Lib.hid (BkS.sum_full htw hm hl8)
    have hd : decide ((8192 : Int) ≤ (s.sums.length : Int)) = true := by simp; omega
    clear hm hZ h hT ht
    go_enter Tryz.func67, Tryz.ntmps67
    go_wp2_with fail
    refine HS.out.mono ?_
    rintro e w1 ⟨rfl, hb⟩
    have hO : Only w w1 [] := Only.ofBelow hb
    have h1 := H.out.only hO (fun _ _ h => by cases h)
    have c3 := h1.box.cell 3
    rw [htw] at c3
    have c0 := h1.box.cell 0
    have c4 := h1.box.cell 4
    have f4 := h1.box.frozen 4
    have hl := HL.out w1 h1
    have hln := h1.sums.len Tryz.underlying146 3
    have H1 := Lib.hid h1
    have HO := Lib.hid hO
    clear hb hO h1 HS HL
    generalize sumB t = g at *
    go_wp2
    go_ret
    have hO2 : Only w1 (w1.setCell ⟨b, 4, none⟩ (.bool true)) [b] := (Only.refl w1 [b]).setCell (List.mem_singleton.2 rfl) _
    refine ⟨rfl, ?_, (HO.out.mono (by simp)).trans (hO2.mono (by simp))⟩
    rw [HW.out]
    exact H1.out.box_set hO2 _ rfl (H1.out.box.set_ 4 _)
  · have HW := Lib.hid (BkS.sum_new htw hm hl8)
    have hd : decide ((8192 : Int) ≤ (s.sums.length : Int)) = false := by simp; omega
    have HZ := Lib.hid hZ
    clear hm hZ h hT ht
    go_enter Tryz.func67, Tryz.ntmps67
    go_wp2_with fail
    refine HS.out.mono ?_
    rintro e w1 ⟨rfl, hb⟩
    have hO : Only w w1 [] := Only.ofBelow hb
    have h1 := H.out.only hO (fun _ _ h => by cases h)
    have c3 := h1.box.cell 3
    rw [htw] at c3
    have c0 := h1.box.cell 0
    have hl := HL.out w1 h1
    have hln := h1.sums.len Tryz.underlying146 3
    obtain ⟨w3, hrun, h3, hO3⟩ := h1.store (sumB t) t HZ.out
    have H3 := Lib.hid h3
    have HO := Lib.hid hO
    have HO3 := Lib.hid hO3
    clear hb hO h1 HS HL h3 hO3
    generalize sumB t = g at *
    go_wp2
    go_ret
    exact ⟨rfl, by rw [HW.out]; exact H3.out, (HO.out.mono (by simp)).trans (HO3.out.mono (by simp))⟩
theorem bsum_ok {w : World} {b : Nat} {s : BkS} {F : List Nat} (h : BookR w b s F) (t : ByteArray) (ht : t.size ≤ 1000000) (hT : Salts w) :
    Calls Tryz.prog 67 #[.pointer (some ⟨b, 0, none⟩), .string t] w (Turns (fun w' F' => BookR w' b (s.sum t) F') w F (.string (sumB t))) := by
  obtain ⟨nb, h, rfl⟩ := h
  have hc : Calls Tryz.prog 67 #[.pointer (some ⟨b, 0, none⟩), .string t] w (Summed w b nb s t (sumB t)) := by
    cases htw : s.twin
    · cases hm : mget s.sums (sumB t) with
      | none => exact bsum_none h t ht hT htw hm
      | some f => exact bsum_some h t ht hT htw f hm
    · exact bsum_twin h t ht hT htw
  exact hc.mono fun e w' ⟨he, h1, h2⟩ => ⟨he, _, ⟨nb, h1, rfl⟩, h2, fun x hx => .inl hx⟩
set_option maxHeartbeats 1000000 in
theorem blen_ok {w : World} {b nb : Nat} {s : BkS} (h : BookC w b nb s) :
    Calls Tryz.prog 23 #[.pointer (some ⟨b, 0, none⟩)] w fun e w' => e = .returned (.int .i64 (s.sums.length : Int)) ∧ w = w' := by
  have c0 := h.box.cell 0
  have hln := h.sums.len Tryz.underlying146 3
  go_enter Tryz.func23, Tryz.ntmps23
  go_wp2
  go_ret
  exact ⟨rfl, rfl⟩
set_option maxHeartbeats 1000000 in
set_option maxRecDepth 100000 in
theorem twins_ok {w : World} {b nb : Nat} {s : BkS} (h : BookC w b nb s) :
    Calls Tryz.prog 31 #[.pointer (some ⟨b, 0, none⟩)] w fun e w' => e = .returned (.tuple #[.string s.a, .string s.b, .bool s.twin]) ∧ ∃ n, w' = w.drewN n := by
  have c1 := h.box.cell 1
  have c2 := h.box.cell 2
  have c3 := h.box.cell 3
  go_enter Tryz.func31, Tryz.ntmps31
  go_wp2
  go_quiet (fail)
  go_wp2
  go_ret3
  exact ⟨rfl, _, rfl⟩

end Go.Proofs.YtimpjlnbbdfehaaGreatDoor
namespace Go.Proofs.YtimpjlnbbdfehaaGreatDoor
open Go.RowKit Go.Shelf Go.Lib Go.Sort
set_option linter.unusedVariables false
attribute [local go_sem ↓] shr_32_1 shl_32_1 shr_32_2 shl_32_2 shr_32_3 shl_32_3 shr_32_4 shl_32_4 shr_32_5 shl_32_5 shr_32_6 shl_32_6 shr_32_7 shl_32_7 shr_32_8 shl_32_8 shr_32_9 shl_32_9 shr_32_10 shl_32_10 shr_32_11 shl_32_11 shr_32_12 shl_32_12 shr_32_13 shl_32_13 shr_32_14 shl_32_14 shr_32_15 shl_32_15 shr_32_16 shl_32_16 shr_32_17 shl_32_17 shr_32_18 shl_32_18 shr_32_19 shl_32_19 shr_32_20 shl_32_20 shr_32_21 shl_32_21 shr_32_22 shl_32_22 shr_32_23 shl_32_23 shr_32_24 shl_32_24 shr_32_25 shl_32_25 shr_32_26 shl_32_26 shr_32_27 shl_32_27 shr_32_28 shl_32_28 shr_32_29 shl_32_29 shr_32_30 shl_32_30 shr_32_31 shl_32_31 shr_64_3 shl_64_3 shr_64_7 shl_64_7 shr_64_8 shl_64_8 shr_64_16 shl_64_16 shr_64_24 shl_64_24 shr_64_32 shl_64_32 shr_64_40 shl_64_40 shr_64_48 shl_64_48 shr_64_56 shl_64_56
attribute [local go_sem] add_u32 add_u64 and_u8 or_u8 xor_u8 and_u32 or_u32 xor_u32 and_u64 or_u64 xor_u64 conv_32_8 conv_64_8 conv_64_32 conv_8_32 conv_8_64 conv_32_64

set_option maxHeartbeats 400000 in
theorem sp_has_nil (n : Int) (w : World) : Calls Tryz.prog 123 #[.pointer none, .int .i64 n] w fun e w' => e = .returned (.bool false) ∧ w = w' := by
  go_enter Tryz.func123, Tryz.ntmps123
  go_wp2
  go_ret
  exact ⟨rfl, rfl⟩

set_option maxHeartbeats 400000 in
theorem sp_has_any (p b len cap : Nat) (f m n : Int) (w : World) (hp : Blk w p 161 #[.slice (some ⟨b, 0, none⟩) len cap, .int .i64 f, .int .i64 m]) :
    Calls Tryz.prog 123 #[.pointer (some ⟨p, 0, none⟩), .int .i64 n] w fun e w' => e = .returned (.bool (decide (f ≤ n) && decide (n < (len : Int)))) ∧ w = w' := by
  have h0 : w.cell? ⟨p, 0, none⟩ = some (.slice (some ⟨b, 0, none⟩) len cap) := hp.cell 0
  have h1 : w.cell? ⟨p, 1, none⟩ = some (.int .i64 f) := hp.cell 1
  clear hp
  by_cases a : f ≤ n
  · go_enter Tryz.func123, Tryz.ntmps123
    go_wp2
    go_ret
    refine ⟨?_, rfl⟩
    simp [a]
  · go_enter Tryz.func123, Tryz.ntmps123
    go_wp2
    go_ret
    refine ⟨?_, rfl⟩
    have e : decide (f ≤ n) = false := by simpa using a
    rw [e]
    rfl

def bbv (bs : List Bool) : Array Value := (bs.map Value.bool).toArray
theorem bbv_get (bs : List Bool) (k : Nat) (h : k < bs.length) : (bbv bs)[k]? = some (.bool (bs.getD k false)) := by
  simp [bbv, h]
theorem bbv_set (bs : List Bool) (k : Nat) (x : Bool) : (bbv bs).setIfInBounds k (.bool x) = bbv (bs.set k x) := by
  simp [bbv, List.map_set]

/-- A space at p, its places at b. -/
structure Sp (w : World) (p b : Nat) (bs : List Bool) (f m : Int) : Prop where
  head : Blk w p 161 #[.slice (some ⟨b, 0, none⟩) bs.length bs.length, .int .i64 f, .int .i64 m]
  row : Blk w b 4 (bbv bs)
  ne : p ≠ b

theorem Sp.only {w w' : World} {p b : Nat} {bs : List Bool} {f m : Int} {S : List Nat} (h : Sp w p b bs f m) (ho : Only w w' S) (hp : p ∉ S) (hb : b ∉ S) : Sp w' p b bs f m :=
  ⟨ho.blk h.head hp, ho.blk h.row hb, h.ne⟩

theorem sp_has_sp {p b : Nat} {bs : List Bool} {f m n : Int} {w : World} (h : Sp w p b bs f m) :
    Calls Tryz.prog 123 #[.pointer (some ⟨p, 0, none⟩), .int .i64 n] w fun e w' => e = .returned (.bool (decide (f ≤ n) && decide (n < (bs.length : Int)))) ∧ w = w' :=
  sp_has_any p b _ _ f m n w h.head

set_option maxHeartbeats 400000 in
theorem sp_use_no {p b : Nat} {bs : List Bool} {f m n : Int} {w : World} (h : Sp w p b bs f m) (hn : ¬ (f ≤ n ∧ n < (bs.length : Int))) :
    Calls Tryz.prog 122 #[.pointer (some ⟨p, 0, none⟩), .int .i64 n] w fun e w' => e = .returned (.bool false) ∧ w = w' := by
  have hb : (decide (f ≤ n) && decide (n < (bs.length : Int))) = false := by simpa using hn
  have hc := sp_has_sp (n := n) h
  rw [hb] at hc
  have HC := Lib.hid hc
  clear hc hb h hn
  go_enter Tryz.func122, Tryz.ntmps122
  go_wp2_with (go_at_call 123; refine HC.out.mono ?_; rintro e w' ⟨rfl, rfl⟩)
  go_ret
  exact ⟨rfl, rfl⟩

set_option maxHeartbeats 400000 in
theorem sp_use_taken {p b : Nat} {bs : List Bool} {f m : Int} {w : World} (n : Nat) (h : Sp w p b bs f m) (hf : f ≤ n) (hn : n < bs.length) (ht : bs.getD n false = true) :
    Calls Tryz.prog 122 #[.pointer (some ⟨p, 0, none⟩), .int .i64 n] w fun e w' => e = .returned (.bool false) ∧ w = w' := by
  have hb : (decide (f ≤ (n : Int)) && decide ((n : Int) < (bs.length : Int))) = true := by simp; omega
  have hc := sp_has_sp (n := n) h
  rw [hb] at hc
  have HC := Lib.hid hc
  have h0 : w.cell? ⟨p, 0, none⟩ = some (.slice (some ⟨b, 0, none⟩) bs.length bs.length) := h.head.cell 0
  have h1 : w.cell? ⟨b, n, none⟩ = some (.bool true) := by rw [← ht, ← bbv_get bs n hn]; exact h.row.cell n
  clear hc hb h ht
  go_enter Tryz.func122, Tryz.ntmps122
  go_wp2_with (go_at_call 123; refine HC.out.mono ?_; rintro e w' ⟨rfl, rfl⟩)
  go_ret
  exact ⟨rfl, rfl⟩

set_option maxHeartbeats 400000 in
theorem sp_use_yes {p b : Nat} {bs : List Bool} {f m : Int} {w : World} (n : Nat) (h : Sp w p b bs f m) (hf : f ≤ n) (hn : n < bs.length) (ht : bs.getD n false = false)
    (hm0 : 0 ≤ m) (hm : m < 1000000) :
    Calls Tryz.prog 122 #[.pointer (some ⟨p, 0, none⟩), .int .i64 n] w fun e w' => e = .returned (.bool true) ∧ Sp w' p b (bs.set n true) f (m + 1) ∧ Only w w' [p, b] := by
  have hb : (decide (f ≤ (n : Int)) && decide ((n : Int) < (bs.length : Int))) = true := by simp; omega
  have hc := sp_has_sp (n := n) h
  rw [hb] at hc
  have HC := Lib.hid hc
  have h0 : w.cell? ⟨p, 0, none⟩ = some (.slice (some ⟨b, 0, none⟩) bs.length bs.length) := h.head.cell 0
  have h2 : w.cell? ⟨p, 2, none⟩ = some (.int .i64 m) := h.head.cell 2
  have h1 : w.cell? ⟨b, n, none⟩ = some (.bool false) := by rw [← ht, ← bbv_get bs n hn]; exact h.row.cell n
  have f1 := h.row.frozen n
  have f2 := h.head.frozen 2
  have hne := h.ne
  have hs : Hid (Sp ((w.setCell ⟨b, n, none⟩ (.bool true)).setCell ⟨p, 2, none⟩ (.int .i64 (m + 1))) p b (bs.set n true) f (m + 1)) := by
    refine ⟨?_, ?_, hne⟩
    · have := (h.head.far (p := ⟨b, n, none⟩) hne (.bool true)).set_ 2 (.int .i64 (m + 1))
      simpa using this
    · have := (h.row.set_ n (.bool true)).far (p := ⟨p, 2, none⟩) (Ne.symm hne) (.int .i64 (m + 1))
      rw [bbv_set] at this
      simpa using this
  clear hc hb h ht
  go_enter Tryz.func122, Tryz.ntmps122
  go_wp2_with (go_at_call 123; refine HC.out.mono ?_; rintro e w' ⟨rfl, rfl⟩)
  go_ret
  exact ⟨rfl, hs.out, ((Only.refl _ _).setCell (by simp) _).setCell (by simp) _⟩

set_option maxHeartbeats 400000 in
theorem sp_drop_no {p b : Nat} {bs : List Bool} {f m n : Int} {w : World} (h : Sp w p b bs f m) (hn : ¬ (f ≤ n ∧ n < (bs.length : Int))) :
    Calls Tryz.prog 82 #[.pointer (some ⟨p, 0, none⟩), .int .i64 n] w fun e w' => e = .returned (.bool false) ∧ w = w' := by
  have hb : (decide (f ≤ n) && decide (n < (bs.length : Int))) = false := by simpa using hn
  have hc := sp_has_sp (n := n) h
  rw [hb] at hc
  have HC := Lib.hid hc
  clear hc hb h hn
  go_enter Tryz.func82, Tryz.ntmps82
  go_wp2_with (go_at_call 123; refine HC.out.mono ?_; rintro e w' ⟨rfl, rfl⟩)
  go_ret
  exact ⟨rfl, rfl⟩

set_option maxHeartbeats 400000 in
theorem sp_drop_free {p b : Nat} {bs : List Bool} {f m : Int} {w : World} (n : Nat) (h : Sp w p b bs f m) (hf : f ≤ n) (hn : n < bs.length) (ht : bs.getD n false = false) :
    Calls Tryz.prog 82 #[.pointer (some ⟨p, 0, none⟩), .int .i64 n] w fun e w' => e = .returned (.bool false) ∧ w = w' := by
  have hb : (decide (f ≤ (n : Int)) && decide ((n : Int) < (bs.length : Int))) = true := by simp; omega
  have hc := sp_has_sp (n := n) h
  rw [hb] at hc
  have HC := Lib.hid hc
  have h0 : w.cell? ⟨p, 0, none⟩ = some (.slice (some ⟨b, 0, none⟩) bs.length bs.length) := h.head.cell 0
  have h1 : w.cell? ⟨b, n, none⟩ = some (.bool false) := by rw [← ht, ← bbv_get bs n hn]; exact h.row.cell n
  clear hc hb h ht
  go_enter Tryz.func82, Tryz.ntmps82
  go_wp2_with (go_at_call 123; refine HC.out.mono ?_; rintro e w' ⟨rfl, rfl⟩)
  go_ret
  exact ⟨rfl, rfl⟩

set_option maxHeartbeats 400000 in
theorem sp_drop_yes {p b : Nat} {bs : List Bool} {f m : Int} {w : World} (n : Nat) (h : Sp w p b bs f m) (hf : f ≤ n) (hn : n < bs.length) (ht : bs.getD n false = true)
    (hm0 : 0 ≤ m) (hm : m < 1000000) :
    Calls Tryz.prog 82 #[.pointer (some ⟨p, 0, none⟩), .int .i64 n] w fun e w' => e = .returned (.bool true) ∧ Sp w' p b (bs.set n false) f (m - 1) ∧ Only w w' [p, b] := by
  have hb : (decide (f ≤ (n : Int)) && decide ((n : Int) < (bs.length : Int))) = true := by simp; omega
  have hc := sp_has_sp (n := n) h
  rw [hb] at hc
  have HC := Lib.hid hc
  have h0 : w.cell? ⟨p, 0, none⟩ = some (.slice (some ⟨b, 0, none⟩) bs.length bs.length) := h.head.cell 0
  have h2 : w.cell? ⟨p, 2, none⟩ = some (.int .i64 m) := h.head.cell 2
  have h1 : w.cell? ⟨b, n, none⟩ = some (.bool true) := by rw [← ht, ← bbv_get bs n hn]; exact h.row.cell n
  have f1 := h.row.frozen n
  have f2 := h.head.frozen 2
  have hne := h.ne
  have hs : Hid (Sp ((w.setCell ⟨b, n, none⟩ (.bool false)).setCell ⟨p, 2, none⟩ (.int .i64 (m - 1))) p b (bs.set n false) f (m - 1)) := by
    refine ⟨?_, ?_, hne⟩
    · have := (h.head.far (p := ⟨b, n, none⟩) hne (.bool false)).set_ 2 (.int .i64 (m - 1))
      simpa using this
    · have := (h.row.set_ n (.bool false)).far (p := ⟨p, 2, none⟩) (Ne.symm hne) (.int .i64 (m - 1))
      rw [bbv_set] at this
      simpa using this
  clear hc hb h ht
  go_enter Tryz.func82, Tryz.ntmps82
  go_wp2_with (go_at_call 123; refine HC.out.mono ?_; rintro e w' ⟨rfl, rfl⟩)
  go_ret
  exact ⟨rfl, hs.out, ((Only.refl _ _).setCell (by simp) _).setCell (by simp) _⟩

set_option maxHeartbeats 400000 in
theorem sp_many_any {p b : Nat} {bs : List Bool} {f m : Int} {w : World} (h : Sp w p b bs f m) :
    Calls Tryz.prog 37 #[.pointer (some ⟨p, 0, none⟩)] w fun e w' => e = .returned (.int .i64 m) ∧ w = w' := by
  have h2 : w.cell? ⟨p, 2, none⟩ = some (.int .i64 m) := h.head.cell 2
  clear h
  go_enter Tryz.func37, Tryz.ntmps37
  go_wp2
  go_ret
  exact ⟨rfl, rfl⟩

set_option maxHeartbeats 400000 in
theorem sp_take_none {p b : Nat} {bs : List Bool} {m : Int} {w : World} (F : Nat) (h : Sp w p b bs F m) (hF : F ≤ bs.length) (hl : bs.length < 1000000) (hall : ∀ i, F ≤ i → i < bs.length → bs.getD i false = true) :
    Calls Tryz.prog 81 #[.pointer (some ⟨p, 0, none⟩)] w fun e w' => e = .returned (.int .i64 (-1)) ∧ w = w' := by
  have h0 : w.cell? ⟨p, 0, none⟩ = some (.slice (some ⟨b, 0, none⟩) bs.length bs.length) := h.head.cell 0
  have h1 : w.cell? ⟨p, 1, none⟩ = some (.int .i64 F) := h.head.cell 1
  have H := Lib.hid h
  have HA := Lib.hid hall
  clear h hall
  go_enter Tryz.func81, Tryz.ntmps81
  go_wp2
  go_loop [3] (fun i => ∃ k : Nat, F ≤ k ∧ k ≤ bs.length ∧ i = .int .i64 k) (fun i => bs.length - (RowKit.intOf i).toNat)
  case atStart => exact ⟨F, Nat.le_refl _, hF, rfl⟩
  case round =>
    obtain ⟨k, hk0, hk1, rfl⟩ := hrel
    by_cases hlt : k < bs.length
    · go_wp2_with (go_at_call 122; refine (sp_use_taken k H.out (by omega) hlt (HA.out k hk0 hlt)).mono ?_; rintro e w' ⟨rfl, rfl⟩)
      go_round
      case rel => exact ⟨k + 1, by omega, by omega, by go_num⟩
      case measure => simp [RowKit.intOf]; omega
    · go_wp2
      go_ret
      exact ⟨rfl, rfl⟩

set_option maxHeartbeats 400000 in
theorem sp_take_some {p b : Nat} {bs : List Bool} {m : Int} {w : World} (F K : Nat) (h : Sp w p b bs F m) (hF : F ≤ K) (hK : K < bs.length) (hl : bs.length < 1000000) (hall : ∀ i, F ≤ i → i < K → bs.getD i false = true)
    (hf : bs.getD K false = false) (hm0 : 0 ≤ m) (hm : m < 1000000) :
    Calls Tryz.prog 81 #[.pointer (some ⟨p, 0, none⟩)] w fun e w' => e = .returned (.int .i64 K) ∧ Sp w' p b (bs.set K true) F (m + 1) ∧ Only w w' [p, b] := by
  have h0 : w.cell? ⟨p, 0, none⟩ = some (.slice (some ⟨b, 0, none⟩) bs.length bs.length) := h.head.cell 0
  have h1 : w.cell? ⟨p, 1, none⟩ = some (.int .i64 F) := h.head.cell 1
  have H := Lib.hid h
  have HA := Lib.hid hall
  have HF := Lib.hid hf
  clear h hall hf
  go_enter Tryz.func81, Tryz.ntmps81
  go_wp2
  go_loop [3] (fun i => ∃ k : Nat, F ≤ k ∧ k ≤ K ∧ i = .int .i64 k) (fun i => K - (RowKit.intOf i).toNat)
  case atStart => exact ⟨F, Nat.le_refl _, hF, rfl⟩
  case round =>
    obtain ⟨k, hk0, hk1, rfl⟩ := hrel
    by_cases hlt : k < K
    · have hlt' : k < bs.length := by omega
      go_wp2_with (go_at_call 122; refine (sp_use_taken k H.out (by omega) hlt' (HA.out k hk0 hlt)).mono ?_; rintro e w' ⟨rfl, rfl⟩)
      go_round
      case rel => exact ⟨k + 1, by omega, by omega, by go_num⟩
      case measure => simp [RowKit.intOf]; omega
    · obtain rfl : k = K := by omega
      go_wp2_with (go_at_call 122; refine (sp_use_yes k H.out (by omega) hK HF.out hm0 hm).mono ?_; rintro e w' ⟨rfl, hs, ho⟩; have HS := Lib.hid hs; have HO := Lib.hid ho; clear hs ho)
      go_ret
      exact ⟨rfl, HS.out, HO.out⟩

/-! The nil space -/
theorem sp_use_nil (n : Int) (w : World) : Calls Tryz.prog 122 #[.pointer none, .int .i64 n] w fun e w' => e = .returned (.bool false) ∧ w = w' := by
  go_enter Tryz.func122, Tryz.ntmps122
  go_wp2_with (go_at_call 123; refine (sp_has_nil _ _).mono ?_; rintro e w' ⟨rfl, rfl⟩)
  go_ret
  exact ⟨rfl, rfl⟩
theorem sp_drop_nil (n : Int) (w : World) : Calls Tryz.prog 82 #[.pointer none, .int .i64 n] w fun e w' => e = .returned (.bool false) ∧ w = w' := by
  go_enter Tryz.func82, Tryz.ntmps82
  go_wp2_with (go_at_call 123; refine (sp_has_nil _ _).mono ?_; rintro e w' ⟨rfl, rfl⟩)
  go_ret
  exact ⟨rfl, rfl⟩
theorem sp_take_nil (w : World) : Calls Tryz.prog 81 #[.pointer none] w fun e w' => e = .returned (.int .i64 (-1)) ∧ w = w' := by
  go_enter Tryz.func81, Tryz.ntmps81
  go_wp2
  go_ret
  exact ⟨rfl, rfl⟩
theorem sp_many_nil (w : World) : Calls Tryz.prog 37 #[.pointer none] w fun e w' => e = .returned (.int .i64 0) ∧ w = w' := by
  go_enter Tryz.func37, Tryz.ntmps37
  go_wp2
  go_ret
  exact ⟨rfl, rfl⟩
theorem info4 : (Tryz.prog.info? 4).map (fun i => (i.zero, i.size, i.bytes)) = some (some (.bool false), 1, 1) := by kernel_rfl

theorem sp_made_false (k : Nat) : madeCells #[.bool false] k = bbv (List.replicate k false) := by
  apply Array.ext
  · simp [madeCells, bbv]
  · intro i h1 h2
    simp [madeCells, bbv, Nat.mod_one]

/-- What New leaves: so many places, all free. -/
def NewSpace (n f : Int) (w : World) (e : Ending) (w' : World) : Prop :=
  ∃ p b, e = .returned (.pointer (some ⟨p, 0, none⟩)) ∧ w.heap.size ≤ p ∧ w.heap.size ≤ b ∧ Sp w' p b (List.replicate n.toNat false) (min (max f 0) (max n 0)) 0 ∧ Only w w' []

theorem sp_new_post (n f x : Int) (w : World) (hx : x = min (max f 0) (max n 0)) : NewSpace n f w (.returned (.pointer (some ⟨w.heap.size + 1, 0, none⟩)))
    ((w.alloc (.cells (bbv (List.replicate n.toNat false)) 4)).alloc (.cells #[.slice (some ⟨w.heap.size, 0, none⟩) n.toNat n.toNat, .int .i64 x, .int .i64 0] 161)) := by
  refine ⟨_, w.heap.size, rfl, by omega, by omega, ⟨?_, ?_, by omega⟩, ((Only.refl _ _).alloc _).alloc _⟩
  · subst hx
    have := Blk.new (w.alloc (.cells (bbv (List.replicate n.toNat false)) 4)) 161 #[.slice (some ⟨w.heap.size, 0, none⟩) n.toNat n.toNat, .int .i64 (min (max f 0) (max n 0)), .int .i64 0]
    simpa using this
  · exact (Blk.new w 4 _).alloc _

set_option maxHeartbeats 800000 in
set_option maxRecDepth 100000 in
theorem sp_new_any (n f : Int) (w : World) (h : 0 ≤ n) (hn : n ≤ 1000000) : Calls Tryz.prog 62 #[.int .i64 n, .int .i64 f] w (NewSpace n f w) := by
  obtain ⟨i0, hi0, hz0, hz1, hz2⟩ := info_parts info4
  have hmk := run_make (P := Tryz.prog) w 159 4 i0 (.bool false) Tryz.underlying159 hi0 hz0 .i64 .i64 n n (by omega) (Int.le_refl _) (by rw [hz2]; omega) (by omega)
  simp only [hz1, Nat.mul_one, Value.cells, sp_made_false] at hmk
  have hmk2 := hmk
  rw [show (n : Int) = max n 0 by omega] at hmk2
  rw [show (max n 0).toNat = n.toNat by omega] at hmk2
  have hk : 0 ≤ (n.toNat : Int) := by omega
  have hk2 : (n.toNat : Int) ≤ 1000000 := by omega
  have hN : Hid ((n.toNat : Int) = n) := by show (n.toNat : Int) = n; omega
  go_enter Tryz.func62, Tryz.ntmps62
  go_wp2
  all_goals go_ret
  all_goals refine sp_new_post n f _ w ?_
  all_goals (have := hN.out; omega)

end Go.Proofs.YtimpjlnbbdfehaaGreatDoor
