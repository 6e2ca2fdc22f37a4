import Derived.Test.YtimpjlnbbdfehaaGreatDoorGI
import Derived.Test.YtimpjlnbbdfehaaGreatDoorBE
namespace Go.Proofs.YtimpjlnbbdfehaaGreatDoor
open Go.RowKit Go.Shelf Go.Lib Go.Sort
set_option linter.unusedVariables false
attribute [local go_sem ↓] shr_32_1 shl_32_1 shr_32_2 shl_32_2 shr_32_3 shl_32_3 shr_32_4 shl_32_4 shr_32_5 shl_32_5 shr_32_6 shl_32_6 shr_32_7 shl_32_7 shr_32_8 shl_32_8 shr_32_9 shl_32_9 shr_32_10 shl_32_10 shr_32_11 shl_32_11 shr_32_12 shl_32_12 shr_32_13 shl_32_13 shr_32_14 shl_32_14 shr_32_15 shl_32_15 shr_32_16 shl_32_16 shr_32_17 shl_32_17 shr_32_18 shl_32_18 shr_32_19 shl_32_19 shr_32_20 shl_32_20 shr_32_21 shl_32_21 shr_32_22 shl_32_22 shr_32_23 shl_32_23 shr_32_24 shl_32_24 shr_32_25 shl_32_25 shr_32_26 shl_32_26 shr_32_27 shl_32_27 shr_32_28 shl_32_28 shr_32_29 shl_32_29 shr_32_30 shl_32_30 shr_32_31 shl_32_31 shr_64_3 shl_64_3 shr_64_7 shl_64_7 shr_64_8 shl_64_8 shr_64_16 shl_64_16 shr_64_24 shl_64_24 shr_64_32 shl_64_32 shr_64_40 shl_64_40 shr_64_48 shl_64_48 shr_64_56 shl_64_56
attribute [local go_sem] add_u32 add_u64 and_u8 or_u8 xor_u8 and_u32 or_u32 xor_u32 and_u64 or_u64 xor_u64 conv_32_8 conv_64_8 conv_64_32 conv_8_32 conv_8_64 conv_32_64

/-! ### slices.Clone of references -/
/-- A copy: a slice of its own, in a new block. -/
def Cloned (w : World) (n : Nat) (xs : List Value) (e : Ending) (w' : World) : Prop := ∃ v, e = .returned v ∧ Mid w' 1 54 2 v n xs ∧ Only w w' [] ∧ ∀ g, v.ownBlock = some g → w.heap.size ≤ g
set_option maxHeartbeats 2000000 in
set_option maxRecDepth 100000 in
theorem clone_refs {w : World} {v : Value} {n : Nat} {xs : List Value} (h : Mid w 1 54 2 v n xs) (h1 : ∀ u ∈ xs, u.oneCell' = true) (hn : n ≤ 1000000) (hw : 0 < w.heap.size) : Calls Tryz.prog 86 #[v] w (Cloned w n xs) := by
  obtain ⟨A, cap, rfl, hnc, hcm, hrow⟩ := h.form
  have hlen := h.1
  have hq := fun w => Lib.run_eql_slice_nil (P := Tryz.prog) w 100 54 A n cap 0 0 Tryz.underlying100
  cases A with
  | none =>
    have h0 : n = 0 := by
      rcases h.2 with ⟨_, h0⟩ | ⟨g, off, c2, cur, hv, _⟩
      · exact h0
      · injection hv with h1 h2 h3; cases h1
    have hc0 : cap = 0 := by
      rcases h.2 with ⟨hv, _⟩ | ⟨g, off, c2, cur, hv, _⟩
      · injection hv
      · injection hv with h1 h2 h3; cases h1
    subst h0 hc0
    have hx : xs = [] := List.eq_nil_of_length_eq_zero (by simpa using hlen)
    subst hx
    clear h hrow hlen
    dsimp only [Option.isNone_none] at hq
    go_enter Tryz.func86, Tryz.ntmps86
    go_wp2
    go_ret
    exact ⟨_, rfl, Mid.nil _ _ _ _, Only.refl _ _, fun g hg => by simp [Value.ownBlock] at hg⟩
  | some ad =>
    dsimp only [Option.isNone_some] at hq
    obtain ⟨i54, hi54, hz0, hz1, hz2⟩ := info_parts info54f
    have HM : Hid (Mid (w.alloc (.cells #[] 54)) 1 54 2 (.slice (some ⟨w.heap.size, 0, none⟩) 0 0) 0 []) := empty_mid w 54 2 hw
    have HR := Lib.hid (hrow.belowAll ((Below.refl _ _).alloc (Nat.le_refl _) (.cells #[] 54)))
    have HL := Lib.hid hlen
    have HN := Lib.hid hn
    have H1 := Lib.hid h1
    clear h hrow hlen hn h1 hw
    go_enter Tryz.func86, Tryz.ntmps86
    go_wp2_with (at_builtin; refine wpList_append_mid _ rfl (.tmp 5) (.tmp 6) 100 rfl 1 54 i54 (.agg #[.int .i64 0, .string ⟨#[]⟩]) 2 24 Tryz.underlying100 hi54 hz0 hz1 hz2 rfl (by decide) _ _ _ rfl HM.out (some ad) n cap xs rfl HL.out HR.out H1.out (by have := HN.out; simp only [maxLen]; omega) (by have := HN.out; omega) (by simp) ?_; intro v1 w1 hm1 hg1 ho1; have HM1 := Lib.hid hm1; have HG1 := Lib.hid hg1; have HO1 := Lib.hid ho1; clear hm1 hg1 ho1)
    go_ret
    refine ⟨v1, rfl, by simpa using HM1.out, ?_, ?_⟩
    · have hg : World.grownBy (w.alloc (.cells #[] 54)) w1 (some w.heap.size) := HG1.out
      exact ⟨hg.os, hg.tape, hg.output, Nat.le_trans (by simp) hg.size, fun k hk _ => (hg.block k (by simp; omega) (by simp; omega)).trans (Below.heap_alloc _ _ _ hk)⟩
    · intro g hg
      have ho : v1.ownBlock = some w.heap.size ∨ v1.ownBlock = some (w.alloc (.cells #[] 54)).heap.size := HO1.out
      rcases ho with e | e
      · rw [e] at hg; injection hg with hg; omega
      · rw [e] at hg; injection hg with hg; simp at hg; omega

end Go.Proofs.YtimpjlnbbdfehaaGreatDoor
namespace Go.Proofs.YtimpjlnbbdfehaaGreatDoor
open Go.RowKit Go.Shelf Go.Lib Go.Sort
set_option linter.unusedVariables false
attribute [local go_sem ↓] shr_32_1 shl_32_1 shr_32_2 shl_32_2 shr_32_3 shl_32_3 shr_32_4 shl_32_4 shr_32_5 shl_32_5 shr_32_6 shl_32_6 shr_32_7 shl_32_7 shr_32_8 shl_32_8 shr_32_9 shl_32_9 shr_32_10 shl_32_10 shr_32_11 shl_32_11 shr_32_12 shl_32_12 shr_32_13 shl_32_13 shr_32_14 shl_32_14 shr_32_15 shl_32_15 shr_32_16 shl_32_16 shr_32_17 shl_32_17 shr_32_18 shl_32_18 shr_32_19 shl_32_19 shr_32_20 shl_32_20 shr_32_21 shl_32_21 shr_32_22 shl_32_22 shr_32_23 shl_32_23 shr_32_24 shl_32_24 shr_32_25 shl_32_25 shr_32_26 shl_32_26 shr_32_27 shl_32_27 shr_32_28 shl_32_28 shr_32_29 shl_32_29 shr_32_30 shl_32_30 shr_32_31 shl_32_31 shr_64_3 shl_64_3 shr_64_7 shl_64_7 shr_64_8 shl_64_8 shr_64_16 shl_64_16 shr_64_24 shl_64_24 shr_64_32 shl_64_32 shr_64_40 shl_64_40 shr_64_48 shl_64_48 shr_64_56 shl_64_56
attribute [local go_sem] add_u32 add_u64 and_u8 or_u8 xor_u8 and_u32 or_u32 xor_u32 and_u64 or_u64 xor_u64 conv_32_8 conv_64_8 conv_64_32 conv_8_32 conv_8_64 conv_32_64

section
variable {w : World} {i : Ids} {st : PS} {own : Nat → Nat}
set_option maxHeartbeats 1000000 in
set_option maxRecDepth 100000 in
theorem kept_ok (h : SysC w i st own) : Calls Tryz.prog 35 #[.pointer (some ⟨i.p, 0, none⟩)] w (PT i w own st (.tuple #[.int .i64 (st.row.length : Int), .int .i64 (st.reads : Int), .int .i64 (st.hits : Int)])) := by
  obtain ⟨kb, fb, rv, ov, hp, hO⟩ := h.pg
  obtain ⟨A, c, rfl, _, _, _⟩ := hp.row.form
  have c6 := hp.box.cell 6
  have c12 := hp.box.cell 12
  have c13 := hp.box.cell 13
  have HF := Lib.hid (fun n => h.drew (Keeps.refl _ _) n)
  have H0 := Lib.hid h
  clear h hp hO
  go_enter Tryz.func35, Tryz.ntmps35
  go_wp2
  go_quiet (fail)
  go_wp2
  go_ret3
  exact ⟨rfl, HF.out _⟩
set_option maxHeartbeats 1000000 in
set_option maxRecDepth 100000 in
theorem space_ok (h : SysC w i st own) : Calls Tryz.prog 36 #[.pointer (some ⟨i.p, 0, none⟩)] w fun e w' => e = .returned (.pointer (some ⟨i.s, 0, none⟩)) ∧ w = w' := by
  obtain ⟨kb, fb, rv, ov, hp, hO⟩ := h.pg
  have c3 := hp.box.cell 3
  clear h hp hO
  go_enter Tryz.func36, Tryz.ntmps36
  go_wp2
  go_ret
  exact ⟨rfl, rfl⟩
end

end Go.Proofs.YtimpjlnbbdfehaaGreatDoor
namespace Go.Proofs.YtimpjlnbbdfehaaGreatDoor
open Go.RowKit Go.Shelf Go.Lib Go.Sort
set_option linter.unusedVariables false
attribute [local go_sem ↓] shr_32_1 shl_32_1 shr_32_2 shl_32_2 shr_32_3 shl_32_3 shr_32_4 shl_32_4 shr_32_5 shl_32_5 shr_32_6 shl_32_6 shr_32_7 shl_32_7 shr_32_8 shl_32_8 shr_32_9 shl_32_9 shr_32_10 shl_32_10 shr_32_11 shl_32_11 shr_32_12 shl_32_12 shr_32_13 shl_32_13 shr_32_14 shl_32_14 shr_32_15 shl_32_15 shr_32_16 shl_32_16 shr_32_17 shl_32_17 shr_32_18 shl_32_18 shr_32_19 shl_32_19 shr_32_20 shl_32_20 shr_32_21 shl_32_21 shr_32_22 shl_32_22 shr_32_23 shl_32_23 shr_32_24 shl_32_24 shr_32_25 shl_32_25 shr_32_26 shl_32_26 shr_32_27 shl_32_27 shr_32_28 shl_32_28 shr_32_29 shl_32_29 shr_32_30 shl_32_30 shr_32_31 shl_32_31 shr_64_3 shl_64_3 shr_64_7 shl_64_7 shr_64_8 shl_64_8 shr_64_16 shl_64_16 shr_64_24 shl_64_24 shr_64_32 shl_64_32 shr_64_40 shl_64_40 shr_64_48 shl_64_48 shr_64_56 shl_64_56
attribute [local go_sem] add_u32 add_u64 and_u8 or_u8 xor_u8 and_u32 or_u32 xor_u32 and_u64 or_u64 xor_u64 conv_32_8 conv_64_8 conv_64_32 conv_8_32 conv_8_64 conv_32_64

/-! ### slices.IndexFunc and DeleteFunc at references, with a function that may turn what is behind it -/
theorem refs_get (l : List Ref) (k : Nat) (hk : k < l.length) : (refs l)[k * 2]? = some (.int .i64 l[k].place) ∧ (refs l)[k * 2 + 1]? = some (.string l[k].sum) := by
  induction l generalizing k with
  | nil => cases hk
  | cons x r ih =>
    cases k with
    | zero => exact ⟨rfl, rfl⟩
    | succ k =>
      have hk' : k < r.length := by simpa using hk
      have := ih k hk'
      have e1 : (k + 1) * 2 = (k * 2) + 1 + 1 := by omega
      have e2 : (k + 1) * 2 + 1 = (k * 2 + 1) + 1 + 1 := by omega
      rw [e1, show (k * 2) + 1 + 1 + 1 = (k * 2 + 1) + 1 + 1 by omega]
      show (x.cells ++ refs r)[_]? = _ ∧ (x.cells ++ refs r)[_]? = _
      simpa [Ref.cells] using this
section
variable {S : Type} (Inv : S → World → Prop) (step : S → Ref → S) (f : Ref → Bool) (g : Nat) (lb : Array Value) (B : Nat) (v : Value) (l : List Ref)
/-- What is asked of the function value. -/
def Asks : Prop := ∀ (s : S) (x : Ref) (w : World), x ∈ l → Inv s w → Calls Tryz.prog g (#[.agg #[.int .i64 x.place, .string x.sum]] ++ lb) w fun e w' => e = .returned (.bool (f x)) ∧ Inv (step s x) w'
set_option maxHeartbeats 4000000 in
set_option maxRecDepth 100000 in
theorem index_ok (eg : ∀ args w, (callFunc g args).run Tryz.prog w = .ok (.enter g args) w) (hM : ∀ s w, Inv s w → Mid w B 54 2 v l.length (refs l)) (hI : ∀ s w n, Inv s w → Inv s (w.drewN n)) (hl : l.length ≤ 1000000) (hA : Asks Inv step f g lb l) (s : S) (w : World) (h0 : Inv s w) :
    Calls Tryz.prog 125 #[v, .func (.func g) #[] lb] w fun e w' => (∃ k, l.findIdx? f = some k ∧ e = .returned (.int .i64 (k : Int)) ∧ Inv ((l.take (k + 1)).foldl step s) w') ∨ (l.findIdx? f = none ∧ e = .returned (.int .i64 (-1)) ∧ Inv (l.foldl step s) w') := by
  obtain ⟨A, c, rfl, _, _, _⟩ := (hM s w h0).form
  have HM := Lib.hid hM
  have HI := Lib.hid hI
  have HA := Lib.hid hA
  have H0 := Lib.hid h0
  clear hM hI hA h0
  go_enter Tryz.func125, Tryz.ntmps125
  go_wp2_with fail
  go_loopg [8, 5] (l.length : Nat) (fun q v8 v5 wr => ∃ (k : Nat), q + k = l.length ∧ v8 = .int .i64 (k : Int) ∧ (∀ j (hj : j < l.length), j < k → f l[j] = false) ∧ Inv ((l.take k).foldl step s) wr)
  case atStart => exact ⟨0, rfl, rfl, fun j _ h => by omega, H0.out⟩
  case round =>
    obtain ⟨k, hq, rfl, hf, hi⟩ := hrel
    have R := Lib.hid hi
    have HF := Lib.hid hf
    clear hi hf H0
    by_cases hlt : k < l.length
    · obtain ⟨g7, o7, c7, hv7, hcs7⟩ := (HM.out _ _ R.out).open_ (by omega)
      injection hv7 with hA7 hn7 hc7
      clear hn7 hc7
      subst hA7
      obtain ⟨r1, r2⟩ := refs_get l k hlt
      have q1 := hcs7 _ _ r1
      have q2 := hcs7 _ _ r2
      rw [← Nat.add_assoc] at q2
      clear hcs7 r1 r2
      have hd : decide ((k : Int) < (l.length : Int)) = true := by simp; omega
      have hC := HA.out ((l.take k).foldl step s) l[k] wr (List.getElem_mem hlt) R.out
      have HS : Hid (step ((l.take k).foldl step s) l[k] = (l.take (k + 1)).foldl step s) := by
        show _ = _
        rw [List.take_succ_eq_append_getElem hlt, List.foldl_append]
        rfl
      rw [HS.out] at hC
      cases hfx : f l[k]
      · rw [hfx] at hC
        have HC := Lib.hid hC
        clear hC
        go_wp2_with (go_at_fn g; refine HC.out.mono ?_; rintro e w' ⟨rfl, hi⟩; have R2 := Lib.hid hi; clear hi)
        go_roundg (gk - 1)
        case measure => omega
        case rel => exact ⟨k + 1, by omega, by go_num, fun j hj hjk => by
          by_cases e : j = k
          · subst e; exact hfx
          · exact HF.out j hj (by omega), R2.out⟩
      · rw [hfx] at hC
        have HC := Lib.hid hC
        clear hC
        go_wp2_with (go_at_fn g; refine HC.out.mono ?_; rintro e w' ⟨rfl, hi⟩; have R2 := Lib.hid hi; clear hi)
        go_ret
        exact .inl ⟨k, List.findIdx?_eq_some_iff_getElem.2 ⟨hlt, hfx, fun j hjk => by simp [HF.out j (by omega) hjk]⟩, rfl, R2.out⟩
    · obtain rfl : k = l.length := by omega
      have hd : decide ((l.length : Int) < (l.length : Int)) = false := by simp
      go_wp2_with fail
      go_ret
      refine .inr ⟨?_, rfl, ?_⟩
      · rw [List.findIdx?_eq_none_iff]
        intro x hx
        obtain ⟨j, hj, rfl⟩ := List.getElem_of_mem hx
        exact HF.out j hj hj
      · have := R.out
        rwa [List.take_length] at this
end

end Go.Proofs.YtimpjlnbbdfehaaGreatDoor
namespace Go.Proofs.YtimpjlnbbdfehaaGreatDoor
open Go.RowKit Go.Shelf Go.Lib Go.Sort
set_option linter.unusedVariables false
attribute [local go_sem ↓] shr_32_1 shl_32_1 shr_32_2 shl_32_2 shr_32_3 shl_32_3 shr_32_4 shl_32_4 shr_32_5 shl_32_5 shr_32_6 shl_32_6 shr_32_7 shl_32_7 shr_32_8 shl_32_8 shr_32_9 shl_32_9 shr_32_10 shl_32_10 shr_32_11 shl_32_11 shr_32_12 shl_32_12 shr_32_13 shl_32_13 shr_32_14 shl_32_14 shr_32_15 shl_32_15 shr_32_16 shl_32_16 shr_32_17 shl_32_17 shr_32_18 shl_32_18 shr_32_19 shl_32_19 shr_32_20 shl_32_20 shr_32_21 shl_32_21 shr_32_22 shl_32_22 shr_32_23 shl_32_23 shr_32_24 shl_32_24 shr_32_25 shl_32_25 shr_32_26 shl_32_26 shr_32_27 shl_32_27 shr_32_28 shl_32_28 shr_32_29 shl_32_29 shr_32_30 shl_32_30 shr_32_31 shl_32_31 shr_64_3 shl_64_3 shr_64_7 shl_64_7 shr_64_8 shl_64_8 shr_64_16 shl_64_16 shr_64_24 shl_64_24 shr_64_32 shl_64_32 shr_64_40 shl_64_40 shr_64_48 shl_64_48 shr_64_56 shl_64_56
attribute [local go_sem] add_u32 add_u64 and_u8 or_u8 xor_u8 and_u32 or_u32 xor_u32 and_u64 or_u64 xor_u64 conv_32_8 conv_64_8 conv_64_32 conv_8_32 conv_8_64 conv_32_64

/-! ### A slice of references whose cells are turned in place -/
theorem refs_split (l : List Ref) (i : Nat) (h : i < l.length) : refs l = refs (l.take i) ++ (l[i].cells ++ refs (l.drop (i + 1))) := by
  have e : l = l.take i ++ (l[i] :: l.drop (i + 1)) := by simp
  conv => lhs; rw [e]
  rw [refs_app]
  rfl
theorem refs_set (l : List Ref) (i : Nat) (h : i < l.length) (r : Ref) : refs (l.set i r) = refs (l.take i) ++ (r.cells ++ refs (l.drop (i + 1))) := by
  rw [List.set_eq_take_append_cons_drop, if_pos h, refs_app]
  rfl
theorem row_put (pre suf : List Value) (l : List Ref) (i : Nat) (h : i < l.length) (r : Ref) :
    (pre ++ refs l ++ suf).take (pre.length + i * 2) ++ r.cells ++ (pre ++ refs l ++ suf).drop (pre.length + i * 2 + 2) = pre ++ refs (l.set i r) ++ suf := by
  have hl : (refs (l.take i)).length = i * 2 := by rw [refs_len, List.length_take, Nat.min_eq_left (by omega)]
  rw [refs_set l i h r, refs_split l i h]
  have e1 : pre ++ (refs (l.take i) ++ (l[i].cells ++ refs (l.drop (i + 1)))) ++ suf = (pre ++ refs (l.take i)) ++ (l[i].cells ++ (refs (l.drop (i + 1)) ++ suf)) := by simp only [List.append_assoc]
  have e2 : pre.length + i * 2 = (pre ++ refs (l.take i)).length := by rw [List.length_append, hl]
  have e3 : ∀ A X C : List Value, (A ++ (X ++ C)).take A.length = A := fun A X C => List.take_left
  have e4 : ∀ A X C : List Value, (A ++ (X ++ C)).drop (A.length + X.length) = C := fun A X C => by
    rw [← List.append_assoc, ← List.length_append]
    exact List.drop_left
  have e5 : (l[i].cells).length = 2 := rfl
  rw [e1, e2, e3]
  have e6 := e4 (pre ++ refs (l.take i)) l[i].cells (refs (l.drop (i + 1)) ++ suf)
  rw [e5] at e6
  rw [e6]
  simp only [List.append_assoc]
def refRow (w : World) (G : Nat) (pre suf : List Value) (l : List Ref) : Prop := Blk w G 54 (pre ++ refs l ++ suf).toArray
theorem wpList_store_ref {w : World} {ops : Array Oper} {rest : List Oper} {o : Oper} {a : Act} {Q : Exit → Act → World → Prop} (hgd : o.guard = none) (x y : Operand) (ho : o.op = .store 54 x y)
    (G k i : Nat) (pre suf : List Value) (l : List Ref) (r : Ref) (hx : a.eval x = .pointer (some ⟨G, k, none⟩)) (hk : k = pre.length + i * 2) (hy : a.eval y = .agg #[.int .i64 r.place, .string r.sum]) (hb : refRow w G pre suf l) (hi : i < l.length)
    (h : wpList Tryz.prog ops Q rest (a.put o.dst undef) (w.setRow G (pre ++ refs (l.set i r) ++ suf).toArray)) : wpList Tryz.prog ops Q (o :: rest) a w := by
  refine wpList_plain hgd fun K hK => ?_
  have hs : (Tryz.prog.info? 54).map (·.size) = some 2 := info54
  have hst := run_storeCells_at (P := Tryz.prog) G k 54 r.cells 0 (pre ++ refs l ++ suf).toArray w hb (by
    have := refs_len l
    simp [Ref.cells]
    omega) (fun v hv => by
    simp [Ref.cells] at hv
    rcases hv with rfl | rfl <;> rfl)
  have e : ((pre ++ refs l ++ suf).toArray.toList.take (k + 0) ++ r.cells ++ (pre ++ refs l ++ suf).toArray.toList.drop (k + 0 + r.cells.length)).toArray = (pre ++ refs (l.set i r) ++ suf).toArray := by
    rw [← row_put pre suf l i hi r, hk]
    rfl
  rw [e] at hst
  generalize (pre ++ refs (l.set i r) ++ suf).toArray = Z at hst h
  unfold Oper.wp execOp
  cases hq : Tryz.prog.info? 54 with
  | none => simp [hq] at hs
  | some inf =>
    have hs2 : inf.size = 2 := by simpa [hq] using hs
    have hst2 : (storeCells ⟨G, k, none⟩ [.int .i64 r.place, .string r.sum]).run Tryz.prog w = .ok () (w.setRow G Z) := hst
    simp [ho, hx, hy, Instr.storeAt, Instr.sureAddr, storeVar, sizeOf, typeInfo, hq, hs2, Value.cells, hst2]
    exact hK _ _ h
def rz : Ref := ⟨0, ⟨#[]⟩⟩
theorem zeros_refs (n : Nat) : (Builtin.zeroCells #[.int .i64 0, .string ⟨#[]⟩] n).toList = refs (List.replicate n rz) := by
  have hl := refs_len (List.replicate n rz)
  apply List.ext_getElem?
  intro j
  by_cases hj : j < n * 2
  · have hk : j / 2 < (List.replicate n rz).length := by simp; omega
    obtain ⟨r1, r2⟩ := refs_get (List.replicate n rz) (j / 2) hk
    simp only [List.getElem_replicate] at r1 r2
    rcases Nat.mod_two_eq_zero_or_one j with e | e
    · rw [show j / 2 * 2 = j by omega] at r1
      rw [r1]
      simp [Builtin.zeroCells, hj, e, rz]
    · rw [show j / 2 * 2 + 1 = j by omega] at r2
      rw [r2]
      simp [Builtin.zeroCells, hj, e, rz]
  · rw [List.getElem?_eq_none (by simp [Builtin.zeroCells]; omega), List.getElem?_eq_none (by rw [hl]; simp; omega)]
theorem row_zero (pre suf : List Value) (l : List Ref) (i : Nat) (h : i ≤ l.length) :
    (pre ++ refs l ++ suf).take (pre.length + i * 2) ++ refs (List.replicate (l.length - i) rz) ++ (pre ++ refs l ++ suf).drop (pre.length + i * 2 + (refs (List.replicate (l.length - i) rz)).length) = pre ++ refs (l.take i ++ List.replicate (l.length - i) rz) ++ suf := by
  have hl : (refs (l.take i)).length = i * 2 := by rw [refs_len, List.length_take, Nat.min_eq_left h]
  have hd : (refs (l.drop i)).length = (refs (List.replicate (l.length - i) rz)).length := by rw [refs_len, refs_len]; simp
  have e0 : refs l = refs (l.take i) ++ refs (l.drop i) := by rw [← refs_app, List.take_append_drop]
  have e1 : pre ++ refs l ++ suf = (pre ++ refs (l.take i)) ++ (refs (l.drop i) ++ suf) := by rw [e0]; simp only [List.append_assoc]
  have e2 : pre.length + i * 2 = (pre ++ refs (l.take i)).length := by rw [List.length_append, hl]
  have e3 : ∀ A X : List Value, (A ++ X).take A.length = A := fun A X => List.take_left
  have e4 : ∀ A X C : List Value, (A ++ (X ++ C)).drop (A.length + X.length) = C := fun A X C => by
    rw [← List.append_assoc, ← List.length_append]
    exact List.drop_left
  rw [e1, e2, e3, ← hd, e4, refs_app]
  simp only [List.append_assoc]
theorem run_clear_refs {w : World} (G k i n c : Nat) (ty : TypeId) (pre suf : List Value) (l : List Ref) (hk : k = pre.length + i * 2) (hb : refRow w G pre suf l) (hi : i < l.length) (hn : n = l.length - i) :
    (Builtin.clear_ #[100] ty #[.slice (some ⟨G, k, none⟩) n c]).run Tryz.prog w = .ok (.tuple #[]) (w.setRow G (pre ++ refs (l.take i ++ List.replicate (l.length - i) rz) ++ suf).toArray) := by
  have hz := zeros_refs n
  have hst := run_storeCells_at (P := Tryz.prog) G k 54 (refs (List.replicate n rz)) 0 (pre ++ refs l ++ suf).toArray w hb (by
    have h1 := refs_len l
    have h2 := refs_len (List.replicate n rz)
    simp at h2
    simp [h1, h2]
    omega) (refs_one _)
  have e : ((pre ++ refs l ++ suf).toArray.toList.take (k + 0) ++ refs (List.replicate n rz) ++ (pre ++ refs l ++ suf).toArray.toList.drop (k + 0 + (refs (List.replicate n rz)).length)).toArray = (pre ++ refs (l.take i ++ List.replicate (l.length - i) rz) ++ suf).toArray := by
    rw [← row_zero pre suf l i (by omega), hk, hn]
    rfl
  rw [e] at hst
  generalize (pre ++ refs (l.take i ++ List.replicate (l.length - i) rz) ++ suf).toArray = Z at hst
  rw [← hz] at hst
  obtain ⟨m, rfl⟩ : ∃ m, n = m + 1 := ⟨n - 1, by omega⟩
  simp [Builtin.clear_, run_underlying Tryz.underlying100, Value.cells, hst]
theorem refRow.mid {w : World} {G : Nat} {pre suf : List Value} {l : List Ref} (h : refRow w G pre suf l) {B n cap : Nat} (hB : B ≤ G) (hn : n ≤ l.length) (hc : l.length ≤ cap) (hm : cap ≤ maxLen) (hs : pre.length + cap * 2 ≤ (pre ++ refs l ++ suf).length) :
    Mid w B 54 2 (.slice (some ⟨G, pre.length, none⟩) n cap) n (refs (l.take n)) := by
  refine ⟨by rw [refs_len, List.length_take, Nat.min_eq_left hn], .inr ⟨G, pre.length, cap, _, rfl, hB, h, by omega, hm, by simpa using hs, ?_⟩⟩
  have e0 : refs l = refs (l.take n) ++ refs (l.drop n) := by rw [← refs_app, List.take_append_drop]
  have hl : n * 2 = (refs (l.take n)).length := by rw [refs_len, List.length_take, Nat.min_eq_left hn]
  show ((pre ++ refs l ++ suf).drop pre.length).take (n * 2) = _
  rw [List.append_assoc, List.drop_left, e0, List.append_assoc, hl, List.take_left]

end Go.Proofs.YtimpjlnbbdfehaaGreatDoor
namespace Go.Proofs.YtimpjlnbbdfehaaGreatDoor
open Go.RowKit Go.Shelf Go.Lib Go.Sort
set_option linter.unusedVariables false
attribute [local go_sem ↓] shr_32_1 shl_32_1 shr_32_2 shl_32_2 shr_32_3 shl_32_3 shr_32_4 shl_32_4 shr_32_5 shl_32_5 shr_32_6 shl_32_6 shr_32_7 shl_32_7 shr_32_8 shl_32_8 shr_32_9 shl_32_9 shr_32_10 shl_32_10 shr_32_11 shl_32_11 shr_32_12 shl_32_12 shr_32_13 shl_32_13 shr_32_14 shl_32_14 shr_32_15 shl_32_15 shr_32_16 shl_32_16 shr_32_17 shl_32_17 shr_32_18 shl_32_18 shr_32_19 shl_32_19 shr_32_20 shl_32_20 shr_32_21 shl_32_21 shr_32_22 shl_32_22 shr_32_23 shl_32_23 shr_32_24 shl_32_24 shr_32_25 shl_32_25 shr_32_26 shl_32_26 shr_32_27 shl_32_27 shr_32_28 shl_32_28 shr_32_29 shl_32_29 shr_32_30 shl_32_30 shr_32_31 shl_32_31 shr_64_3 shl_64_3 shr_64_7 shl_64_7 shr_64_8 shl_64_8 shr_64_16 shl_64_16 shr_64_24 shl_64_24 shr_64_32 shl_64_32 shr_64_40 shl_64_40 shr_64_48 shl_64_48 shr_64_56 shl_64_56
attribute [local go_sem] add_u32 add_u64 and_u8 or_u8 xor_u8 and_u32 or_u32 xor_u32 and_u64 or_u64 xor_u64 conv_32_8 conv_64_8 conv_64_32 conv_8_32 conv_8_64 conv_32_64

/-! ### slices.DeleteFunc at references -/
section
variable {S : Type} (Inv : S → World → Prop) (step : S → Ref → S) (f : Ref → Bool) (g : Nat) (lb : Array Value) (l : List Ref) (Bs : List Nat) (G : Nat) (pre suf : List Value)
/-- What is asked of the function value: it leaves the row. -/
def Asks2 : Prop := ∀ (s : S) (x : Ref) (w : World), x ∈ l → Inv s w → Calls Tryz.prog g (#[.agg #[.int .i64 x.place, .string x.sum]] ++ lb) w fun e w' => e = .returned (.bool (f x)) ∧ Inv (step s x) w' ∧ Only w w' Bs
theorem refRow.same {w w' : World} (h : refRow w G pre suf l) (e : w'.heap[G]? = w.heap[G]?) : refRow w' G pre suf l := by
  unfold refRow at *
  exact e.trans h
theorem filter_take (l : List Ref) (k : Nat) (h : k < l.length) : (l.take (k + 1)).filter (fun x => !f x) = (l.take k).filter (fun x => !f x) ++ (if f l[k] = true then [] else [l[k]]) := by
  rw [List.take_succ_eq_append_getElem h, List.filter_append]
  congr 1
  cases hf : f l[k] <;> simp [hf]
/-- The row within the loop: i are kept of the first j. -/
structure DelI (d : List Ref) (i j : Nat) : Prop where
  len : d.length = l.length
  lt : i < j
  kept : d.take i = (l.take j).filter fun x => !f x
  rest : d.drop j = l.drop j
theorem DelI.get {d : List Ref} {i j : Nat} (h : DelI f l d i j) (hj : j < l.length) : d[j]'(by rw [h.len]; exact hj) = l[j] := by
  have h1 : d[j]? = l[j]? := by
    have := congrArg (fun x => x[0]?) h.rest
    simpa using this
  have h2 : j < d.length := by rw [h.len]; exact hj
  rw [List.getElem?_eq_getElem h2, List.getElem?_eq_getElem hj] at h1
  injection h1
theorem DelI.keep {d : List Ref} {i j : Nat} (h : DelI f l d i j) (hj : j < l.length) (hf : f l[j] = false) : DelI f l (d.set i l[j]) (i + 1) (j + 1) := by
  have hi : i < d.length := by rw [h.len]; have := h.lt; omega
  refine ⟨by rw [List.length_set]; exact h.len, by have := h.lt; omega, ?_, ?_⟩
  · rw [filter_take f l j hj, ← h.kept, hf, List.take_succ_eq_append_getElem (by rw [List.length_set]; exact hi)]
    have e : (d.set i l[j]).take i = d.take i := by rw [List.take_set]; exact List.set_eq_of_length_le (by rw [List.length_take]; exact Nat.min_le_left _ _)
    rw [e]
    simp
  · rw [List.drop_set_of_lt (by have := h.lt; omega), ← List.drop_drop, h.rest, List.drop_drop]
theorem DelI.skip {d : List Ref} {i j : Nat} (h : DelI f l d i j) (hj : j < l.length) (hf : f l[j] = true) : DelI f l d i (j + 1) := by
  refine ⟨h.len, by have := h.lt; omega, ?_, ?_⟩
  · rw [filter_take f l j hj, ← h.kept, hf]; simp
  · rw [← List.drop_drop, h.rest, List.drop_drop]
theorem DelI.start {k : Nat} (hk : k < l.length) (ht : f l[k] = true) (hall : ∀ j (hj : j < l.length), j < k → f l[j] = false) : DelI f l l k (k + 1) := by
  refine ⟨rfl, by omega, ?_, rfl⟩
  rw [filter_take f l k hk, ht]
  simp
  symm
  rw [List.filter_eq_self]
  intro x hx
  obtain ⟨j, hj, rfl⟩ := List.getElem_of_mem hx
  have hjk : j < k := by simp at hj; omega
  rw [List.getElem_take]
  simp [hall j (by omega) hjk]
theorem filter_none (h : l.findIdx? f = none) : (l.filter fun x => !f x) = l := by
  rw [List.findIdx?_eq_none_iff] at h
  rw [List.filter_eq_self]
  intro x hx
  simp [h x hx]
set_option maxHeartbeats 4000000 in
set_option maxRecDepth 100000 in
theorem delete_ok (eg : ∀ args w, (callFunc g args).run Tryz.prog w = .ok (.enter g args) w) (hO : ∀ s w w', Inv s w → Only w w' [G] → Inv s w') (hA : Asks2 Inv step f g lb l Bs) (hl : l.length ≤ 1000000) (cap : Nat) (hc : l.length ≤ cap) (hm : cap ≤ maxLen) (hs : pre.length + cap * 2 ≤ (pre ++ refs l ++ suf).length) (hG : 1 ≤ G) (hGB : G ∉ Bs) (s : S) (w : World) (hB : ∀ x ∈ Bs, x < w.heap.size) (h0 : Inv s w) (hr : refRow w G pre suf l) :
    Calls Tryz.prog 85 #[.slice (some ⟨G, pre.length, none⟩) l.length cap, .func (.func g) #[] lb] w fun e w' => ∃ d, e = .returned (.slice (some ⟨G, pre.length, none⟩) (l.filter fun x => !f x).length cap) ∧ Inv (l.foldl step s) w' ∧ refRow w' G pre suf d ∧ d.length = l.length ∧ (d.take (l.filter fun x => !f x).length = l.filter fun x => !f x) := by
  have HMid := Lib.hid (fun (w : World) (d : List Ref) (h : refRow w G pre suf d) (hd : d.length = l.length) => by
    have := h.mid hG (Nat.le_refl _) (by rw [hd]; exact hc) hm (by have a := refs_len d; have b := refs_len l; simp only [List.length_append] at hs ⊢; omega)
    rw [List.take_length, hd] at this
    exact this)
  have HIF := Lib.hid (index_ok (fun s w' => (Inv s w' ∧ w.heap.size ≤ w'.heap.size) ∧ refRow w' G pre suf l) step f g lb 1 (.slice (some ⟨G, pre.length, none⟩) l.length cap) l eg (fun s w h => HMid.out w l h.2 rfl) (fun s w n h => ⟨⟨hO s w _ h.1.1 ((Only.refl w _).drewN n), h.1.2⟩, h.2⟩) hl
    (fun s x w hx h => (hA s x w hx h.1.1).mono fun e w' ⟨h1, h2, h3⟩ => ⟨h1, ⟨h2, Nat.le_trans h.1.2 h3.size⟩, h3.blk h.2 hGB⟩) s w ⟨⟨h0, Nat.le_refl _⟩, hr⟩)
  have HO := Lib.hid hO
  have HA := Lib.hid hA
  have HS : Hid (∀ x ∈ Bs, x < w.heap.size) := hB
  have HGB := Lib.hid hGB
  clear h0 hr hO hA hB hGB hs
  go_enter Tryz.func85, Tryz.ntmps85
  go_wp2_with fail
  refine HIF.out.mono ?_
  rintro e w1 (⟨k, hk, rfl, ⟨hi, hz1⟩, hr⟩ | ⟨hk, rfl, ⟨hi, hz1⟩, hr⟩)
  · obtain ⟨hkl, hfk, hall⟩ := List.findIdx?_eq_some_iff_getElem.1 hk
    have HST := Lib.hid (DelI.start f l hkl hfk (fun j hj hjk => by simpa using hall j hjk))
    have hne : ((k : Int) == -1) = false := beq_eq_false_iff_ne.2 (by omega)
    have HI1 := Lib.hid hi
    have HR1 := Lib.hid hr
    have HZ1 : Hid (w.heap.size ≤ w1.heap.size) := hz1
    clear hi hr hk hall hfk HIF hz1
    go_wp2_with fail
    go_loopg [5, 6, 7] (l.length : Nat) (fun q v5 v6 _ wr => ∃ (i j : Nat) (d : List Ref), (l.length ≤ q + j ∧ j ≤ l.length) ∧ v5 = .int .i64 (i : Int) ∧ v6 = .int .i64 (j : Int) ∧ DelI f l d i j ∧ Inv ((l.take j).foldl step s) wr ∧ refRow wr G pre suf d ∧ w.heap.size ≤ wr.heap.size)
    case atStart => exact ⟨k, k + 1, l, by omega, rfl, by go_num, HST.out, HI1.out, HR1.out, HZ1.out⟩
    case round =>
      obtain ⟨i, j, d, ⟨hq, hjl⟩, rfl, rfl, hd1, hi, hr, hz⟩ := hrel
      have RD := Lib.hid hd1
      have RI := Lib.hid hi
      have RR := Lib.hid hr
      have RZ : Hid (w.heap.size ≤ wr.heap.size) := hz
      have hij := hd1.lt
      clear hd1 hi hr hz HI1 HR1 HZ1 HST
      by_cases hlt : j < l.length
      · have hd : decide ((j : Int) < (l.length : Int)) = true := by simp; omega
        have hdl : j < d.length := by rw [RD.out.len]; exact hlt
        have hgj := RD.out.get f l hlt
        obtain ⟨g7, o7, c7, hv7, hcs7⟩ := (HMid.out wr d RR.out RD.out.len).open_ (by omega)
        injection hv7 with hA7 hn7 hc7
        injection hA7 with hA7
        injection hA7 with hg7 ho7
        subst hg7
        subst ho7
        obtain ⟨r1, r2⟩ := refs_get d j hdl
        rw [hgj] at r1 r2
        have q1 := hcs7 _ _ r1
        have q2 := hcs7 _ _ r2
        rw [← Nat.add_assoc] at q2
        clear hcs7 r1 r2 hgj hn7 hc7
        have HAl : Hid (Blk (wr.alloc (.cells #[.int .i64 0, .string ⟨#[]⟩] 54)) wr.heap.size 54 #[.int .i64 0, .string ⟨#[]⟩]) := Blk.new wr 54 _
        have HB3 : Hid (Blk ((wr.alloc (.cells #[.int .i64 0, .string ⟨#[]⟩] 54)).setRow wr.heap.size #[.int .i64 l[j].place, .string l[j].sum]) wr.heap.size 54 #[.int .i64 l[j].place, .string l[j].sum]) := (Blk.new wr 54 _).row _
        have HO3 : Hid (∀ T : List Nat, Only wr ((wr.alloc (.cells #[.int .i64 0, .string ⟨#[]⟩] 54)).setRow wr.heap.size #[.int .i64 l[j].place, .string l[j].sum]) T) := fun T => only_newRow ((Only.refl wr T).alloc _) (Nat.le_refl _) _
        have HGl : Hid (G < wr.heap.size) := RR.out.lt
        have HSt : Hid (step ((l.take j).foldl step s) l[j] = (l.take (j + 1)).foldl step s) := by
          show _ = _
          rw [List.take_succ_eq_append_getElem hlt, List.foldl_append]
          rfl
        have HC := Lib.hid (fun w3 (h : Inv ((l.take j).foldl step s) w3) => HA.out ((l.take j).foldl step s) l[j] w3 (List.getElem_mem hlt) h)
        rw [HSt.out] at HC
        have HMem := Lib.hid (List.getElem_mem hlt)
        go_wp2_with (first
          | (refine wpList_store_row rfl 54 (.tmp 7) (.tmp 25) (by rfl) wr.heap.size #[.int .i64 l[j].place, .string l[j].sum] (by rfl) (by rfl) 54 _ HAl.out info54 (by rfl) (by simp [Value.oneCell']) ?_; generalize (wr.alloc (.cells #[.int .i64 0, .string ⟨#[]⟩] 54)).setRow wr.heap.size #[.int .i64 l[j].place, .string l[j].sum] = w3 at *)
          | (refine wpList_load_row rfl 54 (.tmp 7) (by rfl) wr.heap.size (by rfl) 54 #[.int .i64 l[j].place, .string l[j].sum] (0, 0) _ HB3.out Tryz.underlying54 rfl info54 ?_)
          | fail)
        have HI3 := Lib.hid (HO.out _ _ w3 RI.out (HO3.out [G]))
        have HR3 : Hid (refRow w3 G pre suf d) := (HO3.out []).blk RR.out (by simp)
        have HZ3 : Hid (wr.heap.size ≤ w3.heap.size) := (HO3.out []).size
        have HN3 : Hid (wr.heap.size ∉ Bs) := fun hm => by have := HS.out _ hm; have := RZ.out; omega
        have HC3 := Lib.hid (HC.out w3 HI3.out)
        clear HC HAl HO3 q1 q2 RI RR HI3
        cases hfx : f l[j]
        · rw [hfx] at HC3
          have HD := Lib.hid (RD.out.keep f l hlt hfx)
          have hil : i < l.length := by omega
          refine HC3.out.mono ?_
          rintro e w4 ⟨rfl, h4, ho4⟩
          have HI4 := Lib.hid h4
          have HR4 : Hid (refRow w4 G pre suf d) := ho4.blk HR3.out HGB.out
          have HB4 := Lib.hid (ho4.blk HB3.out HN3.out)
          have HZ4 : Hid (w3.heap.size ≤ w4.heap.size) := ho4.size
          have HX4 : Hid (∀ w5, Only w4 w5 [G] → Inv ((l.take (j + 1)).foldl step s) w5) := fun w5 h => HO.out _ _ _ HI4.out h
          clear h4 ho4 HB3 HR3 HC3
          go_wp2_with (first
            | (refine wpList_load_row rfl 54 (.tmp 7) (by rfl) wr.heap.size (by rfl) 54 #[.int .i64 l[j].place, .string l[j].sum] (0, 0) _ HB4.out Tryz.underlying54 rfl info54 ?_)
            | (refine wpList_store_ref rfl (.tmp 33) (.tmp 32) (by rfl) G (pre.length + i * 2) i pre suf d l[j] (by rfl) rfl (by rfl) HR4.out (by rw [RD.out.len]; exact hil) ?_)
            | fail)
          have HR5 : Hid (refRow (w4.setRow G (pre ++ (refs (d.set i l[j]) ++ suf)).toArray) G pre suf (d.set i l[j])) := by
            have h := Blk.row HR4.out (pre ++ (refs (d.set i l[j]) ++ suf)).toArray
            show Blk _ _ _ _
            rw [List.append_assoc]
            exact h
          have HI5 := Lib.hid (HX4.out _ (only_setRow (Only.refl w4 [G]) (List.mem_singleton.2 rfl) (pre ++ (refs (d.set i l[j]) ++ suf)).toArray))
          have HZ5 : Hid (w.heap.size ≤ (w4.setRow G (pre ++ (refs (d.set i l[j]) ++ suf)).toArray).heap.size) := Nat.le_trans (Nat.le_trans (Nat.le_trans RZ.out HZ3.out) HZ4.out) (only_setRow (Only.refl w4 [G]) (List.mem_singleton.2 rfl) _).size
          go_roundg (gk - 1)
          case measure => omega
          case rel => exact ⟨i + 1, j + 1, d.set i l[j], by omega, by go_num, by go_num, HD.out, HI5.out, HR5.out, HZ5.out⟩
        · rw [hfx] at HC3
          have HD := Lib.hid (RD.out.skip f l hlt hfx)
          refine HC3.out.mono ?_
          rintro e w4 ⟨rfl, h4, ho4⟩
          have HI4 := Lib.hid h4
          have HR4 : Hid (refRow w4 G pre suf d) := ho4.blk HR3.out HGB.out
          have HZ4 : Hid (w.heap.size ≤ w4.heap.size) := Nat.le_trans (Nat.le_trans RZ.out HZ3.out) ho4.size
          clear h4 ho4 HB3 HR3 HC3
          go_wp2_with fail
          go_roundg (gk - 1)
          case measure => omega
          case rel => exact ⟨i, j + 1, d, by omega, rfl, by go_num, HD.out, HI4.out, HR4.out, HZ4.out⟩
      · obtain rfl : j = l.length := by omega
        have hd : decide ((l.length : Int) < (l.length : Int)) = false := by simp
        have hil : i < l.length := hij
        have hcl := fun ty => run_clear_refs (w := wr) G (pre.length + i * 2) i (l.length - i) (cap - i) ty pre suf d rfl RR.out (by rw [RD.out.len]; exact hil) (by rw [RD.out.len])
        have hii : (i : Int) ≤ (l.length : Int) := by omega
        have hic : (i : Int) ≤ (cap : Int) := by omega
        go_wp2_with fail
        go_ret
        have hk := RD.out.kept
        rw [List.take_length] at hk
        have hm2 : (l.filter fun x => !f x).length = i := by
          rw [← hk, List.length_take, RD.out.len]
          exact Nat.min_eq_left (by omega)
        have hdl : (d.take i).length = i := by rw [hk, hm2]
        refine ⟨d.take i ++ List.replicate (d.length - i) rz, by rw [hm2]; rfl, ?_, ?_, ?_, ?_⟩
        · have h := HO.out _ _ _ RI.out (only_setRow (Only.refl wr [G]) (List.mem_singleton.2 rfl) (pre ++ (refs (List.take i d ++ List.replicate (d.length - i) rz) ++ suf)).toArray)
          rwa [List.take_length] at h
        · have h := Blk.row RR.out (pre ++ (refs (List.take i d ++ List.replicate (d.length - i) rz) ++ suf)).toArray
          show Blk _ _ _ _
          rw [List.append_assoc]
          exact h
        · rw [List.length_append, hdl, List.length_replicate, RD.out.len]
          omega
        · rw [hm2, ← hk]
          exact List.take_left' hdl
  · clear HIF
    go_wp2_with fail
    go_ret
    rw [filter_none f l hk]
    exact ⟨l, rfl, hi, hr, rfl, List.take_length⟩
end

end Go.Proofs.YtimpjlnbbdfehaaGreatDoor
namespace Go.Proofs.YtimpjlnbbdfehaaGreatDoor
open Go.RowKit Go.Shelf Go.Lib Go.Sort
set_option linter.unusedVariables false
attribute [local go_sem ↓] shr_32_1 shl_32_1 shr_32_2 shl_32_2 shr_32_3 shl_32_3 shr_32_4 shl_32_4 shr_32_5 shl_32_5 shr_32_6 shl_32_6 shr_32_7 shl_32_7 shr_32_8 shl_32_8 shr_32_9 shl_32_9 shr_32_10 shl_32_10 shr_32_11 shl_32_11 shr_32_12 shl_32_12 shr_32_13 shl_32_13 shr_32_14 shl_32_14 shr_32_15 shl_32_15 shr_32_16 shl_32_16 shr_32_17 shl_32_17 shr_32_18 shl_32_18 shr_32_19 shl_32_19 shr_32_20 shl_32_20 shr_32_21 shl_32_21 shr_32_22 shl_32_22 shr_32_23 shl_32_23 shr_32_24 shl_32_24 shr_32_25 shl_32_25 shr_32_26 shl_32_26 shr_32_27 shl_32_27 shr_32_28 shl_32_28 shr_32_29 shl_32_29 shr_32_30 shl_32_30 shr_32_31 shl_32_31 shr_64_3 shl_64_3 shr_64_7 shl_64_7 shr_64_8 shl_64_8 shr_64_16 shl_64_16 shr_64_24 shl_64_24 shr_64_32 shl_64_32 shr_64_40 shl_64_40 shr_64_48 shl_64_48 shr_64_56 shl_64_56
attribute [local go_sem] add_u32 add_u64 and_u8 or_u8 xor_u8 and_u32 or_u32 xor_u32 and_u64 or_u64 xor_u64 conv_32_8 conv_64_8 conv_64_32 conv_8_32 conv_8_64 conv_32_64

/-! ### lose: a page is kept no more -/
set_option maxHeartbeats 2000000 in
set_option maxRecDepth 100000 in
theorem is_ok (x r : Ref) (gb : Nat) (w : World) (hb : Blk w gb 54 #[.int .i64 r.place, .string r.sum]) :
    Calls Tryz.prog 124 #[.agg #[.int .i64 x.place, .string x.sum], .pointer (some ⟨gb, 0, none⟩)] w fun e w' => e = .returned (.bool (decide (x = r))) ∧ Only w w' [] := by
  have he1 := fun w => eqin54 x.place r.place x.sum r.sum w
  have he2 := fun w => eql54 x.place r.place x.sum r.sum w
  have hgu := guard54
  have HE : Hid (refEq x.place r.place x.sum r.sum = decide (x = r)) := refEq_iff x r
  have HB1 : Hid (Blk (w.alloc (.cells #[.int .i64 x.place, .string x.sum] 54)) w.heap.size 54 #[.int .i64 x.place, .string x.sum]) := Blk.new w 54 _
  have HB2 : Hid (Blk (w.alloc (.cells #[.int .i64 x.place, .string x.sum] 54)) gb 54 #[.int .i64 r.place, .string r.sum]) := ((Only.refl w []).alloc _).blk hb (by simp)
  have HO : Hid (∀ n, Only w ((w.alloc (.cells #[.int .i64 x.place, .string x.sum] 54)).drewN n) []) := fun n => ((Only.refl w []).alloc _).drewN n
  clear hb
  go_enter Tryz.func124, Tryz.ntmps124
  go_wp2_with (first
    | (refine wpList_load_row rfl 54 (.tmp 2) (by rfl) w.heap.size (by rfl) 54 #[.int .i64 x.place, .string x.sum] (0, 0) _ HB1.out Tryz.underlying54 rfl info54 ?_)
    | (refine wpList_load_row rfl 54 (.tmp 1) (by rfl) gb (by rfl) 54 #[.int .i64 r.place, .string r.sum] (0, 0) _ HB2.out Tryz.underlying54 rfl info54 ?_)
    | fail)
  go_ret
  exact ⟨by rw [← HE.out]; rfl, HO.out 0⟩

end Go.Proofs.YtimpjlnbbdfehaaGreatDoor
namespace Go.Proofs.YtimpjlnbbdfehaaGreatDoor
open Go.RowKit Go.Shelf Go.Lib Go.Sort
set_option linter.unusedVariables false
attribute [local go_sem ↓] shr_32_1 shl_32_1 shr_32_2 shl_32_2 shr_32_3 shl_32_3 shr_32_4 shl_32_4 shr_32_5 shl_32_5 shr_32_6 shl_32_6 shr_32_7 shl_32_7 shr_32_8 shl_32_8 shr_32_9 shl_32_9 shr_32_10 shl_32_10 shr_32_11 shl_32_11 shr_32_12 shl_32_12 shr_32_13 shl_32_13 shr_32_14 shl_32_14 shr_32_15 shl_32_15 shr_32_16 shl_32_16 shr_32_17 shl_32_17 shr_32_18 shl_32_18 shr_32_19 shl_32_19 shr_32_20 shl_32_20 shr_32_21 shl_32_21 shr_32_22 shl_32_22 shr_32_23 shl_32_23 shr_32_24 shl_32_24 shr_32_25 shl_32_25 shr_32_26 shl_32_26 shr_32_27 shl_32_27 shr_32_28 shl_32_28 shr_32_29 shl_32_29 shr_32_30 shl_32_30 shr_32_31 shl_32_31 shr_64_3 shl_64_3 shr_64_7 shl_64_7 shr_64_8 shl_64_8 shr_64_16 shl_64_16 shr_64_24 shl_64_24 shr_64_32 shl_64_32 shr_64_40 shl_64_40 shr_64_48 shl_64_48 shr_64_56 shl_64_56
attribute [local go_sem] add_u32 add_u64 and_u8 or_u8 xor_u8 and_u32 or_u32 xor_u32 and_u64 or_u64 xor_u64 conv_32_8 conv_64_8 conv_64_32 conv_8_32 conv_8_64 conv_32_64

/-! ### lose -/
def PS.lose (st : PS) (r : Ref) : PS := if (mget st.kept r).isSome then { st with kept := mdel st.kept r, row := st.row.filter fun x => !decide (x = r) } else st
set_option maxHeartbeats 2000000 in
set_option maxRecDepth 100000 in
theorem lose_not {w : World} {i : Ids} {st : PS} {own : Nat → Nat} (h : SysC w i st own) (r : Ref) (hr : RefOk r) (hm : (mget st.kept r).isSome = false) :
    Calls Tryz.prog 84 #[.pointer (some ⟨i.p, 0, none⟩), .agg #[.int .i64 r.place, .string r.sum]] w (PT i w own (st.lose r) (.tuple #[])) := by
  have hL : st.lose r = st := if_neg (by simp [hm])
  rw [hL]
  obtain ⟨h0, k0⟩ := h.box0 (.cells #[.int .i64 r.place, .string r.sum] 54)
  obtain ⟨kb, c5, hlk⟩ := h0.c5
  have hl := hlk r hr
  rw [hm] at hl
  have HB : Hid (Blk (w.alloc (.cells #[.int .i64 r.place, .string r.sum] 54)) w.heap.size 54 #[.int .i64 r.place, .string r.sum]) := Blk.new w 54 _
  have b0 := HB.out.cell 0
  have b1 := HB.out.cell 1
  have HF := Lib.hid (fun n => h0.drew k0 n)
  have HF0 : Hid (∃ own', SysC (w.alloc (.cells #[.int .i64 r.place, .string r.sum] 54)) i st own' ∧ Keeps w (w.alloc (.cells #[.int .i64 r.place, .string r.sum] 54)) own own') := ⟨_, h0, k0⟩
  clear h h0 k0 hlk hr hm hL
  go_enter Tryz.func84, Tryz.ntmps84
  go_wp2_with fail
  go_quiet (fail)
  go_wp2_with fail
  go_end0
  exact ⟨rfl, HF.out _⟩

end Go.Proofs.YtimpjlnbbdfehaaGreatDoor
namespace Go.Proofs.YtimpjlnbbdfehaaGreatDoor
open Go.RowKit Go.Shelf Go.Lib Go.Sort
set_option linter.unusedVariables false
attribute [local go_sem ↓] shr_32_1 shl_32_1 shr_32_2 shl_32_2 shr_32_3 shl_32_3 shr_32_4 shl_32_4 shr_32_5 shl_32_5 shr_32_6 shl_32_6 shr_32_7 shl_32_7 shr_32_8 shl_32_8 shr_32_9 shl_32_9 shr_32_10 shl_32_10 shr_32_11 shl_32_11 shr_32_12 shl_32_12 shr_32_13 shl_32_13 shr_32_14 shl_32_14 shr_32_15 shl_32_15 shr_32_16 shl_32_16 shr_32_17 shl_32_17 shr_32_18 shl_32_18 shr_32_19 shl_32_19 shr_32_20 shl_32_20 shr_32_21 shl_32_21 shr_32_22 shl_32_22 shr_32_23 shl_32_23 shr_32_24 shl_32_24 shr_32_25 shl_32_25 shr_32_26 shl_32_26 shr_32_27 shl_32_27 shr_32_28 shl_32_28 shr_32_29 shl_32_29 shr_32_30 shl_32_30 shr_32_31 shl_32_31 shr_64_3 shl_64_3 shr_64_7 shl_64_7 shr_64_8 shl_64_8 shr_64_16 shl_64_16 shr_64_24 shl_64_24 shr_64_32 shl_64_32 shr_64_40 shl_64_40 shr_64_48 shl_64_48 shr_64_56 shl_64_56
attribute [local go_sem] add_u32 add_u64 and_u8 or_u8 xor_u8 and_u32 or_u32 xor_u32 and_u64 or_u64 xor_u64 conv_32_8 conv_64_8 conv_64_32 conv_8_32 conv_8_64 conv_32_64

theorem eg124 (args : Array Value) (w : World) : (callFunc 124 args).run Tryz.prog w = .ok (.enter 124 args) w := by kernel_rfl
theorem only_new {w w1 w2 : World} {S : List Nat} {G : Nat} (h : Only w w1 S) (h2 : Only w1 w2 [G]) (hG : w.heap.size ≤ G) : Only w w2 S :=
  ⟨h2.os.trans h.os, h2.tape.trans h.tape, h2.output.trans h.output, Nat.le_trans h.size h2.size, fun x hx hn => (h2.block x (Nat.lt_of_lt_of_le hx h.size) (by rw [List.mem_singleton]; omega)).trans (h.block x hx hn)⟩
theorem delete_nil (g : Nat) (lb : Array Value) (eg : ∀ args w, (callFunc g args).run Tryz.prog w = .ok (.enter g args) w) (w : World) :
    Calls Tryz.prog 85 #[.slice none 0 0, .func (.func g) #[] lb] w fun e w' => e = .returned (.slice none 0 0) ∧ Only w w' [] := by
  have HIF := Lib.hid (index_ok (S := Unit) (fun _ w' => Only w w' []) (fun s _ => s) (fun _ => false) g lb 1 (.slice none 0 0) [] eg (fun _ w _ => Mid.nil w 1 54 2) (fun _ w n h => h.drewN n) (by decide) (fun s x w hx _ => by cases hx) () w (Only.refl w []))
  go_enter Tryz.func85, Tryz.ntmps85
  go_wp2_with fail
  refine HIF.out.mono ?_
  rintro e w1 (⟨k, hk, _⟩ | ⟨_, rfl, hi⟩)
  · cases hk
  · clear HIF
    go_wp2_with fail
    go_ret
    exact ⟨rfl, hi⟩
/-- A slice of references that is not nil, as a row in its block. -/
theorem Mid.split {w : World} {v : Value} {l : List Ref} (h : Mid w 1 54 2 v l.length (refs l)) :
    (v = .slice none 0 0 ∧ l = []) ∨ ∃ G cap pre suf, v = .slice (some ⟨G, pre.length, none⟩) l.length cap ∧ 1 ≤ G ∧ refRow w G pre suf l ∧ l.length ≤ cap ∧ cap ≤ maxLen ∧ pre.length + cap * 2 ≤ (pre ++ refs l ++ suf).length := by
  rcases h.2 with ⟨hv, hn⟩ | ⟨G, off, cap, cur, hv, hG, hb, hc, hm, hs, ht⟩
  · exact .inl ⟨hv, List.eq_nil_of_length_eq_zero hn⟩
  · have hp : (cur.toList.take off).length = off := by rw [List.length_take]; simp; omega
    have e : cur.toList.take off ++ refs l ++ (cur.toList.drop off).drop (l.length * 2) = cur.toList := by
      rw [← ht, List.append_assoc, List.take_append_drop, List.take_append_drop]
    refine .inr ⟨G, cap, cur.toList.take off, (cur.toList.drop off).drop (l.length * 2), by rw [hp]; exact hv, hG, ?_, hc, hm, ?_⟩
    · unfold refRow
      rw [e, Array.toArray_toList]
      exact hb
    · rw [e, hp]
      simpa using hs

end Go.Proofs.YtimpjlnbbdfehaaGreatDoor
namespace Go.Proofs.YtimpjlnbbdfehaaGreatDoor
open Go.RowKit Go.Shelf Go.Lib Go.Sort
set_option linter.unusedVariables false
attribute [local go_sem ↓] shr_32_1 shl_32_1 shr_32_2 shl_32_2 shr_32_3 shl_32_3 shr_32_4 shl_32_4 shr_32_5 shl_32_5 shr_32_6 shl_32_6 shr_32_7 shl_32_7 shr_32_8 shl_32_8 shr_32_9 shl_32_9 shr_32_10 shl_32_10 shr_32_11 shl_32_11 shr_32_12 shl_32_12 shr_32_13 shl_32_13 shr_32_14 shl_32_14 shr_32_15 shl_32_15 shr_32_16 shl_32_16 shr_32_17 shl_32_17 shr_32_18 shl_32_18 shr_32_19 shl_32_19 shr_32_20 shl_32_20 shr_32_21 shl_32_21 shr_32_22 shl_32_22 shr_32_23 shl_32_23 shr_32_24 shl_32_24 shr_32_25 shl_32_25 shr_32_26 shl_32_26 shr_32_27 shl_32_27 shr_32_28 shl_32_28 shr_32_29 shl_32_29 shr_32_30 shl_32_30 shr_32_31 shl_32_31 shr_64_3 shl_64_3 shr_64_7 shl_64_7 shr_64_8 shl_64_8 shr_64_16 shl_64_16 shr_64_24 shl_64_24 shr_64_32 shl_64_32 shr_64_40 shl_64_40 shr_64_48 shl_64_48 shr_64_56 shl_64_56
attribute [local go_sem] add_u32 add_u64 and_u8 or_u8 xor_u8 and_u32 or_u32 xor_u32 and_u64 or_u64 xor_u64 conv_32_8 conv_64_8 conv_64_32 conv_8_32 conv_8_64 conv_32_64

theorem lose_del {w w2 : World} {i : Ids} {st : PS} {kb fb : Nat} {rv ov : Value} (hp : PgC w2 i kb fb rv ov st) (ho : Only w w2 (pfp i.p kb fb rv ov)) (hlt : ∀ x ∈ pfp i.p kb fb rv ov, x < w.heap.size) (r : Ref) (gb : Nat) (hb : Blk w2 gb 54 #[.int .i64 r.place, .string r.sum])
    (v2 : Value) (l : List Ref) (hm : Mid w2 1 54 2 v2 l.length (refs l)) (hf : ∀ g, v2.ownBlock = some g → w.heap.size ≤ g ∧ g ≠ gb) (hl : l.length ≤ 1000000) :
    Calls Tryz.prog 85 #[v2, .func (.func 124) #[] #[.pointer (some ⟨gb, 0, none⟩)]] w2 fun e w3 => ∃ A c, e = .returned (.slice A (l.filter fun x => !decide (x = r)).length c) ∧ PgC w3 i kb fb rv ov st ∧ Only w w3 (pfp i.p kb fb rv ov) ∧ Mid w3 1 54 2 (.slice A (l.filter fun x => !decide (x = r)).length c) (l.filter fun x => !decide (x = r)).length (refs (l.filter fun x => !decide (x = r))) ∧ (∀ g, (Value.slice A (l.filter fun x => !decide (x = r)).length c).ownBlock = some g → w.heap.size ≤ g) := by
  rcases hm.split with ⟨rfl, rfl⟩ | ⟨G, cap, pre, suf, rfl, hG, hr, hc, hmx, hs⟩
  · refine (delete_nil 124 _ eg124 w2).mono fun e w3 ⟨he, h3⟩ => ⟨none, 0, he, hp.only h3 (fun _ _ hm => by cases hm), ho.trans (h3.mono (by simp)), Mid.nil _ _ _ _, fun g hg => by simp [Value.ownBlock] at hg⟩
  · obtain ⟨hGw, hGb⟩ := hf G rfl
    have hGp : ∀ x ∈ pfp i.p kb fb rv ov, x ∉ [G] := fun x hx hm => by
      rw [List.mem_singleton] at hm
      have := hlt x hx
      omega
    refine (delete_ok (S := Unit) (fun _ w' => PgC w' i kb fb rv ov st ∧ Only w w' (pfp i.p kb fb rv ov) ∧ Blk w' gb 54 #[.int .i64 r.place, .string r.sum]) (fun s _ => s) (fun x => decide (x = r)) 124 #[.pointer (some ⟨gb, 0, none⟩)] l [] G pre suf eg124
      (fun _ w' w'' h h2 => ⟨h.1.only h2 hGp, only_new h.2.1 h2 hGw, h2.blk h.2.2 (by simpa using Ne.symm hGb)⟩)
      (fun _ x w' _ h => (is_ok x r gb w' h.2.2).mono fun e w'' ⟨h1, h2⟩ => ⟨h1, ⟨h.1.only h2 (fun _ _ hm => by cases hm), h.2.1.trans (h2.mono (by simp)), h2.blk h.2.2 (by simp)⟩, h2⟩)
      hl cap hc hmx hs hG (by simp) () w2 (fun x hx => by cases hx) ⟨hp, ho, hb⟩ hr).mono ?_
    rintro e w3 ⟨d, rfl, ⟨h1, h2, _⟩, h4, h5, h6⟩
    have hn : (l.filter fun x => !decide (x = r)).length ≤ l.length := List.length_filter_le _ _
    have hm3 := h4.mid (B := 1) (n := (l.filter fun x => !decide (x = r)).length) (cap := cap) hG (by rw [h5]; exact hn) (by rw [h5]; exact hc) hmx (by have a := refs_len d; have b := refs_len l; simp only [List.length_append] at hs ⊢; omega)
    rw [h6] at hm3
    exact ⟨_, _, rfl, h1, h2, hm3, fun g hg => by
      simp [Value.ownBlock] at hg
      subst hg
      exact hGw⟩

end Go.Proofs.YtimpjlnbbdfehaaGreatDoor
namespace Go.Proofs.YtimpjlnbbdfehaaGreatDoor
open Go.RowKit Go.Shelf Go.Lib Go.Sort
set_option linter.unusedVariables false
attribute [local go_sem ↓] shr_32_1 shl_32_1 shr_32_2 shl_32_2 shr_32_3 shl_32_3 shr_32_4 shl_32_4 shr_32_5 shl_32_5 shr_32_6 shl_32_6 shr_32_7 shl_32_7 shr_32_8 shl_32_8 shr_32_9 shl_32_9 shr_32_10 shl_32_10 shr_32_11 shl_32_11 shr_32_12 shl_32_12 shr_32_13 shl_32_13 shr_32_14 shl_32_14 shr_32_15 shl_32_15 shr_32_16 shl_32_16 shr_32_17 shl_32_17 shr_32_18 shl_32_18 shr_32_19 shl_32_19 shr_32_20 shl_32_20 shr_32_21 shl_32_21 shr_32_22 shl_32_22 shr_32_23 shl_32_23 shr_32_24 shl_32_24 shr_32_25 shl_32_25 shr_32_26 shl_32_26 shr_32_27 shl_32_27 shr_32_28 shl_32_28 shr_32_29 shl_32_29 shr_32_30 shl_32_30 shr_32_31 shl_32_31 shr_64_3 shl_64_3 shr_64_7 shl_64_7 shr_64_8 shl_64_8 shr_64_16 shl_64_16 shr_64_24 shl_64_24 shr_64_32 shl_64_32 shr_64_40 shl_64_40 shr_64_48 shl_64_48 shr_64_56 shl_64_56
attribute [local go_sem] add_u32 add_u64 and_u8 or_u8 xor_u8 and_u32 or_u32 xor_u32 and_u64 or_u64 xor_u64 conv_32_8 conv_64_8 conv_64_32 conv_8_32 conv_8_64 conv_32_64

theorem fresh_new {w : World} {p kb fb : Nat} {rv v ov : Value} (h : ∀ g, v.ownBlock = some g → w.heap.size ≤ g) : Fresh w (pfp p kb fb rv ov) (pfp p kb fb v ov) := by
  intro x hx
  simp only [pfp, List.mem_cons, List.mem_append, Option.mem_toList] at hx ⊢
  rcases hx with rfl | rfl | rfl | hx | hx
  · exact .inl (.inl rfl)
  · exact .inl (.inr (.inl rfl))
  · exact .inl (.inr (.inr (.inl rfl)))
  · exact .inr (h x hx)
  · exact .inl (.inr (.inr (.inr (.inr hx))))
set_option maxHeartbeats 4000000 in
set_option maxRecDepth 100000 in
theorem lose_yes {w : World} {i : Ids} {st : PS} {own : Nat → Nat} (h : SysC w i st own) (r : Ref) (hr : RefOk r) (hm : (mget st.kept r).isSome = true) (hl : st.row.length ≤ 1000000) :
    Calls Tryz.prog 84 #[.pointer (some ⟨i.p, 0, none⟩), .agg #[.int .i64 r.place, .string r.sum]] w (PT i w own (st.lose r) (.tuple #[])) := by
  have hL : st.lose r = { st with kept := mdel st.kept r, row := st.row.filter fun x => !decide (x = r) } := if_pos hm
  rw [hL]
  obtain ⟨kb, fb, rv, ov, hp, hO⟩ := h.pg
  have HEND := Lib.hid (fun w' v' (st' : PS) (e1 : st'.d = st.d) (e2 : st'.v = st.v) (e3 : st'.b = st.b) (e4 : st'.s = st.s) (hp' : PgC w' i kb fb v' ov st') (ho : Only w w' (pfp i.p kb fb rv ov)) (hf : Fresh w (pfp i.p kb fb rv ov) (pfp i.p kb fb v' ov)) => h.pg_step e1 e2 e3 e4 hO hp.lt hp' ho hf)
  have HLT := Lib.hid hp.lt
  have HKB : Hid (kb < w.heap.size) := hp.lt _ (by simp [pfp])
  have HPB : Hid (i.p < w.heap.size) := hp.lt _ (by simp [pfp])
  have HW0 : Hid (0 < w.heap.size) := h.salts.1
  have HP0 := Lib.hid (hp.alloc (.cells #[.int .i64 r.place, .string r.sum] 54))
  have HO0 : Hid (Only w (w.alloc (.cells #[.int .i64 r.place, .string r.sum] 54)) (pfp i.p kb fb rv ov)) := (Only.refl w _).alloc _
  have HB0 : Hid (Blk (w.alloc (.cells #[.int .i64 r.place, .string r.sum] 54)) w.heap.size 54 #[.int .i64 r.place, .string r.sum]) := Blk.new w 54 _
  have HRO := Lib.hid hr
  have HLEN : Hid (st.row.length ≤ 1000000) := hl
  have hlk := fun n => (HP0.out.drewN n).look r hr.1 hr.2
  rw [hm] at hlk
  have hlk0 := HP0.out.look r hr.1 hr.2
  rw [hm] at hlk0
  have c5 := HP0.out.box.cell 5
  have b0 := HB0.out.cell 0
  have b1 := HB0.out.cell 1
  clear h hp hO hr hm hl hL
  go_enter Tryz.func84, Tryz.ntmps84
  go_wp2_with fail
  go_quiet (fail)
  go_wp2_with fail
  obtain ⟨w1, hrun, hp1, ho1⟩ := (HP0.out.drewN (nq + 1)).cut 0 r HRO.out
  have HP1 := Lib.hid hp1
  have HO1 := Lib.hid ((HO0.out.drewN (nq + 1)).trans (ho1.mono (by simp [pfp])))
  have HB1 : Hid (Blk w1 w.heap.size 54 #[.int .i64 r.place, .string r.sum]) := ho1.blk (t := 54) (show Blk ((w.alloc (.cells #[.int .i64 r.place, .string r.sum] 54)).drewN (nq + 1)) w.heap.size 54 #[.int .i64 r.place, .string r.sum] from HB0.out) (by have := HKB.out; simp; omega)
  have HZ1 : Hid (w.heap.size < w1.heap.size) := HB1.out.lt
  have c5' : ((w.alloc (.cells #[.int .i64 r.place, .string r.sum] 54)).drewN nq).cell? ⟨i.p, 5, none⟩ = some (.map (some kb)) := c5
  have b0' : ((w.alloc (.cells #[.int .i64 r.place, .string r.sum] 54)).drewN nq).cell? ⟨w.heap.size, 0, none⟩ = some (.int .i64 r.place) := b0
  have b1' : ((w.alloc (.cells #[.int .i64 r.place, .string r.sum] 54)).drewN nq).cell? ⟨w.heap.size, 1, none⟩ = some (.string r.sum) := b1
  clear hp1 ho1 hlk hlk0 c5 b0 b1 HO0 HB0
  refine wp_region_plan (fun w' => w'.cell? ⟨i.p, 5, none⟩ = some (.map (some kb)) ∧ w'.cell? ⟨w.heap.size, 0, none⟩ = some (.int .i64 r.place) ∧ w'.cell? ⟨w.heap.size, 1, none⟩ = some (.string r.sum)) 5 [(true, 0), (true, 1), (true, 2), (true, 3), (true, 4)] (by kernel_rfl) (by kernel_rfl) ⟨c5', b0', b1'⟩ ?_
  simp only [List.map_cons, List.map_nil, List.getD_cons_zero, List.getD_cons_succ, List.drop_succ_cons, List.drop_zero]
  (refine plan_take (v := ?_) rfl ?_ ?_; rotate_left; (rintro wS ⟨hS1, hS2, hS3⟩; (try dsimp only at hS1 hS2 hS3); go_simp; try with_reducible rfl); simp only [Act.put, List.setIfInBounds_toArray, List.set_cons_zero, List.set_cons_succ])
  (refine plan_take (v := ?_) rfl ?_ ?_; rotate_left; (rintro wS ⟨hS1, hS2, hS3⟩; (try dsimp only at hS1 hS2 hS3); go_simp; try with_reducible rfl); simp only [Act.put, List.setIfInBounds_toArray, List.set_cons_zero, List.set_cons_succ])
  (refine plan_take (v := ?_) rfl ?_ ?_; rotate_left; (rintro wS ⟨hS1, hS2, hS3⟩; (try dsimp only at hS1 hS2 hS3); go_simp; try with_reducible rfl); simp only [Act.put, List.setIfInBounds_toArray, List.set_cons_zero, List.set_cons_succ])
  (refine plan_take (v := ?_) rfl ?_ ?_; rotate_left; (rintro wS ⟨hS1, hS2, hS3⟩; (try dsimp only at hS1 hS2 hS3); go_simp; try with_reducible rfl); simp only [Act.put, List.setIfInBounds_toArray, List.set_cons_zero, List.set_cons_succ])
  (refine plan_take (v := ?_) rfl ?_ ?_; rotate_left; (rintro wS ⟨hS1, hS2, hS3⟩; (try dsimp only at hS1 hS2 hS3); go_simp; try with_reducible rfl); simp only [Act.put, List.setIfInBounds_toArray, List.set_cons_zero, List.set_cons_succ])
  refine plan_nil ?_
  go_wp2_with fail
  refine NoPanic.normal ?_
  clear c5' b0' b1' hrun HP0
  have c6 := HP1.out.box.cell 6
  go_wp2_with fail
  refine (clone_refs HP1.out.row (refs_one _) HLEN.out (Nat.lt_of_le_of_lt (Nat.zero_le _) HZ1.out)).mono ?_
  rintro e w2 ⟨v2, rfl, hm2, ho2, hf2⟩
  have hp2 := HP1.out.only ho2 (fun _ _ hm => by cases hm)
  have HD := Lib.hid (lose_del (w := w) hp2 (HO1.out.trans (ho2.mono (by simp))) HLT.out r w.heap.size (ho2.blk HB1.out (by simp)) v2 st.row hm2 (fun g hg => by have := hf2 g hg; have := HZ1.out; omega) HLEN.out)
  clear hp2 hm2 ho2 hf2 HP1 HO1 HB1 c6
  go_wp2_with fail
  refine HD.out.mono ?_
  rintro e w3 ⟨A3, c3, rfl, hp3, ho3, hm3, hf3⟩
  have c6 := hp3.box.cell 6
  have f6 := hp3.box.frozen 6
  obtain ⟨hp4, ho4⟩ := hp3.rerow hm3
  have HE4 := Lib.hid (HEND.out _ _ { st with kept := mdel st.kept r, row := st.row.filter fun x => !decide (x = r) } rfl rfl rfl rfl hp4 (ho3.trans (ho4.mono pfp_p)) (fresh_new hf3))
  clear hp3 ho3 hm3 hf3 hp4 ho4 HD HEND
  go_wp2_with fail
  go_end0
  exact ⟨rfl, _, HE4.out⟩
theorem lose_ok {w : World} {i : Ids} {st : PS} {own : Nat → Nat} (h : SysC w i st own) (r : Ref) (hr : RefOk r) (hl : st.row.length ≤ 1000000) :
    Calls Tryz.prog 84 #[.pointer (some ⟨i.p, 0, none⟩), .agg #[.int .i64 r.place, .string r.sum]] w (PT i w own (st.lose r) (.tuple #[])) := by
  cases hm : (mget st.kept r).isSome
  · exact lose_not h r hr hm
  · exact lose_yes h r hr hm hl

end Go.Proofs.YtimpjlnbbdfehaaGreatDoor
namespace Go.Proofs.YtimpjlnbbdfehaaGreatDoor
open Go.RowKit Go.Shelf Go.Lib Go.Sort
set_option linter.unusedVariables false
attribute [local go_sem ↓] shr_32_1 shl_32_1 shr_32_2 shl_32_2 shr_32_3 shl_32_3 shr_32_4 shl_32_4 shr_32_5 shl_32_5 shr_32_6 shl_32_6 shr_32_7 shl_32_7 shr_32_8 shl_32_8 shr_32_9 shl_32_9 shr_32_10 shl_32_10 shr_32_11 shl_32_11 shr_32_12 shl_32_12 shr_32_13 shl_32_13 shr_32_14 shl_32_14 shr_32_15 shl_32_15 shr_32_16 shl_32_16 shr_32_17 shl_32_17 shr_32_18 shl_32_18 shr_32_19 shl_32_19 shr_32_20 shl_32_20 shr_32_21 shl_32_21 shr_32_22 shl_32_22 shr_32_23 shl_32_23 shr_32_24 shl_32_24 shr_32_25 shl_32_25 shr_32_26 shl_32_26 shr_32_27 shl_32_27 shr_32_28 shl_32_28 shr_32_29 shl_32_29 shr_32_30 shl_32_30 shr_32_31 shl_32_31 shr_64_3 shl_64_3 shr_64_7 shl_64_7 shr_64_8 shl_64_8 shr_64_16 shl_64_16 shr_64_24 shl_64_24 shr_64_32 shl_64_32 shr_64_40 shl_64_40 shr_64_48 shl_64_48 shr_64_56 shl_64_56
attribute [local go_sem] add_u32 add_u64 and_u8 or_u8 xor_u8 and_u32 or_u32 xor_u32 and_u64 or_u64 xor_u64 conv_32_8 conv_64_8 conv_64_32 conv_8_32 conv_8_64 conv_32_64

/-! ### The space's Drop, within all of it -/
def SpS.gone (s : SpS) (n : Int) : Bool := decide (s.first ≤ n) && decide (n < (s.taken.length : Int)) && s.taken.getD n.toNat false
def SpS.dropI (s : SpS) (n : Int) : SpS := if s.gone n = true then s.drop n.toNat else s
theorem pdrop_ok {w : World} {i : Ids} {st : PS} {own : Nat → Nat} {m : Nat} (h : SysC w i st own) (ok : st.okN m) (hm : m ≤ 900000) (n : Int) :
    Calls Tryz.prog 82 #[.pointer (some ⟨i.s, 0, none⟩), .int .i64 n] w (PT i w own { st with s := st.s.dropI n } (.bool (st.s.gone n))) := by
  obtain ⟨sb, hs, o1, o2, p1, p2⟩ := h.space
  by_cases hin : st.s.first ≤ n ∧ n < (st.s.taken.length : Int)
  · obtain ⟨k, rfl⟩ : ∃ k : Nat, n = (k : Int) := ⟨n.toNat, by have := ok.sf; omega⟩
    have hk : k < st.s.taken.length := by omega
    have hg : st.s.gone (k : Int) = st.s.taken.getD k false := by
      unfold SpS.gone
      rw [Int.toNat_natCast]
      simp [hin.1, hk]
    have hd : st.s.dropI (k : Int) = if st.s.taken.getD k false = true then st.s.drop k else st.s := by
      unfold SpS.dropI
      rw [hg, Int.toNat_natCast]
    rw [hg, hd]
    cases ht : st.s.taken.getD k false
    · refine (sp_drop_free k hs hin.1 hk ht).mono fun e w' ⟨he, hw⟩ => ⟨he, own, ?_, ?_⟩
      · subst hw; exact h
      · subst hw; exact Keeps.refl _ _
    · exact (sp_drop_yes k hs hin.1 hk ht ok.m0 (by have := ok.m1; omega)).mono fun e w' ⟨he, h1, h2⟩ => ⟨he, _, h.space_step hs o1 o2 p1 p2 (s' := st.s.drop k) h1 h2⟩
  · have hg : st.s.gone n = false := by
      unfold SpS.gone
      have e : (decide (st.s.first ≤ n) && decide (n < (st.s.taken.length : Int))) = false := by simpa using hin
      rw [e, Bool.false_and]
    have hd : st.s.dropI n = st.s := if_neg (by rw [hg]; decide)
    rw [hg, hd]
    refine (sp_drop_no hs hin).mono fun e w' ⟨he, hw⟩ => ⟨he, own, ?_, ?_⟩
    · subst hw; exact h
    · subst hw; exact Keeps.refl _ _

end Go.Proofs.YtimpjlnbbdfehaaGreatDoor
namespace Go.Proofs.YtimpjlnbbdfehaaGreatDoor
open Go.RowKit Go.Shelf Go.Lib Go.Sort
set_option linter.unusedVariables false
attribute [local go_sem ↓] shr_32_1 shl_32_1 shr_32_2 shl_32_2 shr_32_3 shl_32_3 shr_32_4 shl_32_4 shr_32_5 shl_32_5 shr_32_6 shl_32_6 shr_32_7 shl_32_7 shr_32_8 shl_32_8 shr_32_9 shl_32_9 shr_32_10 shl_32_10 shr_32_11 shl_32_11 shr_32_12 shl_32_12 shr_32_13 shl_32_13 shr_32_14 shl_32_14 shr_32_15 shl_32_15 shr_32_16 shl_32_16 shr_32_17 shl_32_17 shr_32_18 shl_32_18 shr_32_19 shl_32_19 shr_32_20 shl_32_20 shr_32_21 shl_32_21 shr_32_22 shl_32_22 shr_32_23 shl_32_23 shr_32_24 shl_32_24 shr_32_25 shl_32_25 shr_32_26 shl_32_26 shr_32_27 shl_32_27 shr_32_28 shl_32_28 shr_32_29 shl_32_29 shr_32_30 shl_32_30 shr_32_31 shl_32_31 shr_64_3 shl_64_3 shr_64_7 shl_64_7 shr_64_8 shl_64_8 shr_64_16 shl_64_16 shr_64_24 shl_64_24 shr_64_32 shl_64_32 shr_64_40 shl_64_40 shr_64_48 shl_64_48 shr_64_56 shl_64_56
attribute [local go_sem] add_u32 add_u64 and_u8 or_u8 xor_u8 and_u32 or_u32 xor_u32 and_u64 or_u64 xor_u64 conv_32_8 conv_64_8 conv_64_32 conv_8_32 conv_8_64 conv_32_64

theorem PS.lose_okN {st : PS} {n : Nat} (ok : st.okN n) (r : Ref) : (st.lose r).okN n := by
  unfold PS.lose
  split
  · exact ⟨ok.dl, ok.drow, ok.dall, ok.dnall, ok.acts, ok.key, ok.reads, ok.hits, Nat.le_trans (List.length_filter_le _ _) ok.row, fun x hx => ok.rows x (List.mem_filter.1 hx).1, ok.old, ok.sl, ok.sf, ok.m0, ok.m1⟩
  · exact ok
theorem SysC.freshAt {w : World} {i : Ids} {st : PS} {own : Nat → Nat} (h : SysC w i st own) : ∃ fb, w.cell? ⟨i.p, 10, none⟩ = some (.map (some fb)) ∧ (∀ K n, I64 K → (Instr.lookup 124 (.map (some fb)) (.int .i64 K) false).run Tryz.prog (w.drewN n) = .ok (.bool ((mget st.fresh K).getD false)) (w.drewN n)) ∧
    ∀ ty K n, I64 K → ∃ w', (Builtin.delete_ #[124, 3] ty #[.map (some fb), .int .i64 K]).run Tryz.prog (w.drewN n) = .ok (.tuple #[]) w' ∧ ∃ own', SysC w' i { st with fresh := mdel st.fresh K } own' ∧ Keeps w w' own own' := by
  obtain ⟨kb, fb, rv, ov, hp, hO⟩ := h.pg
  refine ⟨fb, hp.box.cell 10, fun K n hK => ?_, fun ty K n hK => ?_⟩
  · have := MapR.look K3 ki_inj Tryz.underlying124 (z := .bool false) (w := w.drewN n) (by kernel_rfl) (hp.drewN n).fresh K (key3 hK)
    have e : ((mget st.fresh K).map Value.bool).getD (.bool false) = .bool ((mget st.fresh K).getD false) := by cases mget st.fresh K <;> rfl
    rw [e] at this
    exact this
  · obtain ⟨w', h1, h2, h3, _⟩ := (hp.drewN n).fresh.drop (ty := ty) K3 ki_inj Tryz.underlying124 K (key3 hK)
    have ho : Only w w' [fb] := ((Only.refl w [fb]).drewN n).trans h3
    refine ⟨w', h1, _, h.pg_step (st' := { st with fresh := mdel st.fresh K }) rfl rfl rfl rfl hO hp.lt (F := pfp i.p kb fb rv ov) (kb := kb) (fb := fb) (rv := rv) (ov := ov) ⟨ho.blk hp.box (by simpa using hp.fp.symm), hp.kept.only ho (by simpa using hp.ne), h2, hp.row.only ho (fun g hg e => by rw [List.mem_singleton] at e; subst e; exact hp.fr hg), hp.old.only ho (fun g hg e => by rw [List.mem_singleton] at e; subst e; exact hp.fo hg), hp.p1, hp.p2, hp.p3, hp.ne⟩ (ho.mono (by simp [pfp])) (fun x hx => .inl hx)⟩

end Go.Proofs.YtimpjlnbbdfehaaGreatDoor
namespace Go.Proofs.YtimpjlnbbdfehaaGreatDoor
open Go.RowKit Go.Shelf Go.Lib Go.Sort
set_option linter.unusedVariables false
attribute [local go_sem ↓] shr_32_1 shl_32_1 shr_32_2 shl_32_2 shr_32_3 shl_32_3 shr_32_4 shl_32_4 shr_32_5 shl_32_5 shr_32_6 shl_32_6 shr_32_7 shl_32_7 shr_32_8 shl_32_8 shr_32_9 shl_32_9 shr_32_10 shl_32_10 shr_32_11 shl_32_11 shr_32_12 shl_32_12 shr_32_13 shl_32_13 shr_32_14 shl_32_14 shr_32_15 shl_32_15 shr_32_16 shl_32_16 shr_32_17 shl_32_17 shr_32_18 shl_32_18 shr_32_19 shl_32_19 shr_32_20 shl_32_20 shr_32_21 shl_32_21 shr_32_22 shl_32_22 shr_32_23 shl_32_23 shr_32_24 shl_32_24 shr_32_25 shl_32_25 shr_32_26 shl_32_26 shr_32_27 shl_32_27 shr_32_28 shl_32_28 shr_32_29 shl_32_29 shr_32_30 shl_32_30 shr_32_31 shl_32_31 shr_64_3 shl_64_3 shr_64_7 shl_64_7 shr_64_8 shl_64_8 shr_64_16 shl_64_16 shr_64_24 shl_64_24 shr_64_32 shl_64_32 shr_64_40 shl_64_40 shr_64_48 shl_64_48 shr_64_56 shl_64_56
attribute [local go_sem] add_u32 add_u64 and_u8 or_u8 xor_u8 and_u32 or_u32 xor_u32 and_u64 or_u64 xor_u64 conv_32_8 conv_64_8 conv_64_32 conv_8_32 conv_8_64 conv_32_64

/-! ### Drop -/
def PS.drop (st : PS) (r : Ref) : PS :=
  if r.place < 0 then st
  else if (mget (st.lose r).fresh r.place).getD false = true then { st.lose r with fresh := mdel (st.lose r).fresh r.place, s := (st.lose r).s.dropI r.place }
  else { st.lose r with old := (st.lose r).old ++ [r.place] }
set_option maxHeartbeats 4000000 in
set_option maxRecDepth 100000 in
theorem drop_fresh {w : World} {i : Ids} {st : PS} {own : Nat → Nat} {n : Nat} (h : SysC w i st own) (ok : st.okN n) (hn : n ≤ 900000) (r : Ref) (hr : RefOk r) (hp : 0 ≤ r.place) (hf : (mget (st.lose r).fresh r.place).getD false = true) :
    Calls Tryz.prog 32 #[.pointer (some ⟨i.p, 0, none⟩), .agg #[.int .i64 r.place, .string r.sum]] w (PT i w own (st.drop r) (.tuple #[])) := by
  have hL : st.drop r = { st.lose r with fresh := mdel (st.lose r).fresh r.place, s := (st.lose r).s.dropI r.place } := by unfold PS.drop; rw [if_neg (by omega), if_pos hf]
  rw [hL]
  obtain ⟨h0, k0⟩ := h.box0 (.cells #[.int .i64 r.place, .string r.sum] 54)
  have HB0 : Hid (Blk (w.alloc (.cells #[.int .i64 r.place, .string r.sum] 54)) w.heap.size 54 #[.int .i64 r.place, .string r.sum]) := Blk.new w 54 _
  have Z0 : Hid (mark w own 0 w.heap.size = 0) := mark_new (Nat.le_refl _)
  have H0 := Lib.hid h0
  have K0 := Lib.hid k0
  have HLO := Lib.hid (fun w1 own1 (h1 : SysC w1 i st own1) => lose_ok h1 r hr (by have := ok.row; omega))
  have HDR := Lib.hid (fun w1 own1 (h1 : SysC w1 i { st.lose r with fresh := mdel (st.lose r).fresh r.place } own1) => pdrop_ok h1 (PS.fresh_okN (PS.lose_okN ok r) _) hn r.place)
  have HRO := Lib.hid hr
  have hpl : decide (r.place < 0) = false := by simp; omega
  have HF := Lib.hid hf
  have b0' := HB0.out.cell 0
  clear h h0 k0 hr hL ok hf
  generalize st.lose r = s1 at *
  generalize mark w own 0 = own0 at *
  go_enter Tryz.func32, Tryz.ntmps32
  go_wp2_with fail
  refine (HLO.out _ _ H0.out).mono ?_
  rintro e w1 ⟨rfl, own1, h1, k1⟩
  have HB1 := Lib.hid (k1.blk HB0.out Z0.out)
  have Z1 := Lib.hid ((k1.same _ HB0.out.lt).trans Z0.out)
  have K1 := Lib.hid (K0.out.trans k1)
  obtain ⟨fb, c10, hlk, hdel⟩ := h1.freshAt
  have hl0 := fun n => hlk r.place n HRO.out.1
  rw [HF.out] at hl0
  have hl1 := hl0 0
  have HDEL := Lib.hid (fun n => hdel 0 r.place n HRO.out.1)
  have c3 := h1.c3
  clear b0'
  have b0 := HB1.out.cell 0
  have H1 := Lib.hid h1
  clear h1 k1 hlk hdel HLO HB0 H0 K0 Z0
  go_wp2_with fail
  go_quiet (fail)
  go_wp2_with fail
  obtain ⟨w2, hrun, own2, h2, k2⟩ := HDEL.out (nq + 1)
  have H2 := Lib.hid h2
  have HB2 := Lib.hid (k2.blk HB1.out Z1.out)
  have Z2 := Lib.hid ((k2.same _ HB1.out.lt).trans Z1.out)
  have K2 := Lib.hid (K1.out.trans k2)
  have c10' : (w1.drewN nq).cell? ⟨i.p, 10, none⟩ = some (.map (some fb)) := c10
  have b0' : (w1.drewN nq).cell? ⟨w.heap.size, 0, none⟩ = some (.int .i64 r.place) := b0
  clear h2 k2 HDEL HB1 Z1 K1 H1 c10 b0 c3 hl0 hl1
  refine wp_region_plan (fun w' => w'.cell? ⟨i.p, 10, none⟩ = some (.map (some fb)) ∧ w'.cell? ⟨w.heap.size, 0, none⟩ = some (.int .i64 r.place)) 6 [(true, 0), (true, 1), (true, 2), (true, 3), (true, 4), (true, 5)] (by kernel_rfl) (by kernel_rfl) ⟨c10', b0'⟩ ?_
  simp only [List.map_cons, List.map_nil, List.getD_cons_zero, List.getD_cons_succ, List.drop_succ_cons, List.drop_zero]
  (refine plan_take (v := ?_) rfl ?_ ?_; rotate_left; (rintro wS ⟨hS1, hS2⟩; (try dsimp only at hS1 hS2); go_simp; try with_reducible rfl); simp only [Act.put, List.setIfInBounds_toArray, List.set_cons_zero, List.set_cons_succ])
  (refine plan_take (v := ?_) rfl ?_ ?_; rotate_left; (rintro wS ⟨hS1, hS2⟩; (try dsimp only at hS1 hS2); go_simp; try with_reducible rfl); simp only [Act.put, List.setIfInBounds_toArray, List.set_cons_zero, List.set_cons_succ])
  (refine plan_take (v := ?_) rfl ?_ ?_; rotate_left; (rintro wS ⟨hS1, hS2⟩; (try dsimp only at hS1 hS2); go_simp; try with_reducible rfl); simp only [Act.put, List.setIfInBounds_toArray, List.set_cons_zero, List.set_cons_succ])
  (refine plan_take (v := ?_) rfl ?_ ?_; rotate_left; (rintro wS ⟨hS1, hS2⟩; (try dsimp only at hS1 hS2); go_simp; try with_reducible rfl); simp only [Act.put, List.setIfInBounds_toArray, List.set_cons_zero, List.set_cons_succ])
  (refine plan_take (v := ?_) rfl ?_ ?_; rotate_left; (rintro wS ⟨hS1, hS2⟩; (try dsimp only at hS1 hS2); go_simp; try with_reducible rfl); simp only [Act.put, List.setIfInBounds_toArray, List.set_cons_zero, List.set_cons_succ])
  (refine plan_take (v := ?_) rfl ?_ ?_; rotate_left; (rintro wS ⟨hS1, hS2⟩; (try dsimp only at hS1 hS2); go_simp; try with_reducible rfl); simp only [Act.put, List.setIfInBounds_toArray, List.set_cons_zero, List.set_cons_succ])
  refine plan_nil ?_
  go_wp2_with fail
  refine NoPanic.normal ?_
  clear c10' b0' hrun
  have c3 := H2.out.c3
  have b0 := HB2.out.cell 0
  go_wp2_with fail
  refine wp_region_plan (fun w' => w'.cell? ⟨i.p, 3, none⟩ = some (ptr i.s) ∧ w'.cell? ⟨w.heap.size, 0, none⟩ = some (.int .i64 r.place)) 6 [(true, 0), (true, 1), (true, 2), (true, 3), (true, 4), (true, 5)] (by kernel_rfl) (by kernel_rfl) ⟨c3, b0⟩ ?_
  simp only [List.map_cons, List.map_nil, List.getD_cons_zero, List.getD_cons_succ, List.drop_succ_cons, List.drop_zero]
  (refine plan_take (v := ?_) rfl ?_ ?_; rotate_left; (rintro wS ⟨hS1, hS2⟩; (try dsimp only at hS1 hS2); go_simp; try with_reducible rfl); simp only [Act.put, List.setIfInBounds_toArray, List.set_cons_zero, List.set_cons_succ])
  (refine plan_take (v := ?_) rfl ?_ ?_; rotate_left; (rintro wS ⟨hS1, hS2⟩; (try dsimp only at hS1 hS2); go_simp; try with_reducible rfl); simp only [Act.put, List.setIfInBounds_toArray, List.set_cons_zero, List.set_cons_succ])
  (refine plan_take (v := ?_) rfl ?_ ?_; rotate_left; (rintro wS ⟨hS1, hS2⟩; (try dsimp only at hS1 hS2); go_simp; try with_reducible rfl); simp only [Act.put, List.setIfInBounds_toArray, List.set_cons_zero, List.set_cons_succ])
  (refine plan_take (v := ?_) rfl ?_ ?_; rotate_left; (rintro wS ⟨hS1, hS2⟩; (try dsimp only at hS1 hS2); go_simp; try with_reducible rfl); simp only [Act.put, List.setIfInBounds_toArray, List.set_cons_zero, List.set_cons_succ])
  (refine plan_take (v := ?_) rfl ?_ ?_; rotate_left; (rintro wS ⟨hS1, hS2⟩; (try dsimp only at hS1 hS2); go_simp; try with_reducible rfl); simp only [Act.put, List.setIfInBounds_toArray, List.set_cons_zero, List.set_cons_succ])
  (refine plan_take (v := ?_) rfl ?_ ?_; rotate_left; (rintro wS ⟨hS1, hS2⟩; (try dsimp only at hS1 hS2); go_simp; try with_reducible rfl); simp only [Act.put, List.setIfInBounds_toArray, List.set_cons_zero, List.set_cons_succ])
  refine plan_nil ?_
  go_wp2_with fail
  obtain ⟨own3, h3, k3⟩ := H2.out.drew (Keeps.refl _ _) 1
  refine (HDR.out w2.drew own3 h3).mono ?_
  rintro e w4 ⟨rfl, own4, h4, k4⟩
  have K4 := Lib.hid ((K2.out.trans k3).trans k4)
  have H4 := Lib.hid h4
  clear h3 k3 h4 k4 HDR
  go_wp2_with fail
  refine NoPanic.normal ?_
  go_wp2_with fail
  go_end0
  exact ⟨rfl, own4, H4.out, K4.out⟩

end Go.Proofs.YtimpjlnbbdfehaaGreatDoor
namespace Go.Proofs.YtimpjlnbbdfehaaGreatDoor
open Go.RowKit Go.Shelf Go.Lib Go.Sort
set_option linter.unusedVariables false
attribute [local go_sem ↓] shr_32_1 shl_32_1 shr_32_2 shl_32_2 shr_32_3 shl_32_3 shr_32_4 shl_32_4 shr_32_5 shl_32_5 shr_32_6 shl_32_6 shr_32_7 shl_32_7 shr_32_8 shl_32_8 shr_32_9 shl_32_9 shr_32_10 shl_32_10 shr_32_11 shl_32_11 shr_32_12 shl_32_12 shr_32_13 shl_32_13 shr_32_14 shl_32_14 shr_32_15 shl_32_15 shr_32_16 shl_32_16 shr_32_17 shl_32_17 shr_32_18 shl_32_18 shr_32_19 shl_32_19 shr_32_20 shl_32_20 shr_32_21 shl_32_21 shr_32_22 shl_32_22 shr_32_23 shl_32_23 shr_32_24 shl_32_24 shr_32_25 shl_32_25 shr_32_26 shl_32_26 shr_32_27 shl_32_27 shr_32_28 shl_32_28 shr_32_29 shl_32_29 shr_32_30 shl_32_30 shr_32_31 shl_32_31 shr_64_3 shl_64_3 shr_64_7 shl_64_7 shr_64_8 shl_64_8 shr_64_16 shl_64_16 shr_64_24 shl_64_24 shr_64_32 shl_64_32 shr_64_40 shl_64_40 shr_64_48 shl_64_48 shr_64_56 shl_64_56
attribute [local go_sem] add_u32 add_u64 and_u8 or_u8 xor_u8 and_u32 or_u32 xor_u32 and_u64 or_u64 xor_u64 conv_32_8 conv_64_8 conv_64_32 conv_8_32 conv_8_64 conv_32_64

set_option maxHeartbeats 4000000 in
set_option maxRecDepth 100000 in
theorem drop_neg {w : World} {i : Ids} {st : PS} {own : Nat → Nat} (h : SysC w i st own) (r : Ref) (hp : r.place < 0) :
    Calls Tryz.prog 32 #[.pointer (some ⟨i.p, 0, none⟩), .agg #[.int .i64 r.place, .string r.sum]] w (PT i w own (st.drop r) (.tuple #[])) := by
  have hL : st.drop r = st := by unfold PS.drop; rw [if_pos hp]
  rw [hL]
  obtain ⟨h0, k0⟩ := h.box0 (.cells #[.int .i64 r.place, .string r.sum] 54)
  have HB0 : Hid (Blk (w.alloc (.cells #[.int .i64 r.place, .string r.sum] 54)) w.heap.size 54 #[.int .i64 r.place, .string r.sum]) := Blk.new w 54 _
  have H0 := Lib.hid h0
  have K0 := Lib.hid k0
  have hpl : decide (r.place < 0) = true := by simp; omega
  have b0 := HB0.out.cell 0
  clear h h0 k0 hL
  go_enter Tryz.func32, Tryz.ntmps32
  go_wp2_with fail
  go_end0
  exact ⟨rfl, _, H0.out, K0.out⟩

end Go.Proofs.YtimpjlnbbdfehaaGreatDoor
