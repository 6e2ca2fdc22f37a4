import Derived.Test.YtmnakommidgmnaaW9
import Derived.Deep.WholeRow
import Derived.Deep.MidRow
import Derived.StillTailTactics
import Derived.BigRegion
namespace Go.Proofs.Ytmnakommidgmnaa
open Go.RowKit
set_option linter.unusedVariables false

def Z (n : Nat) : List Bool := List.replicate n false
theorem row27 : (Try.prog.info? 27).map (fun i => (i.zero, i.size)) = some (some (.agg (bv (Z 256))), 256) := by kernel_rfl
theorem zero27 (w : World) : (zeroValue 27).run Try.prog w = .ok (.agg (bv (Z 256))) w := (zero_of_info row27).1 w
theorem size27 : (Try.prog.info? 27).map (·.size) = some 256 := (zero_of_info row27).2
theorem bv_size (L : List Bool) : (bv L).size = L.length := by simp [bv]
theorem bv_one (L : List Bool) : (bv L).all (·.oneCell') = true := by
  simp [bv, Value.oneCell']

/-- A segment written into a row of bools. -/
theorem seg_blk (M : List Bool) : ∀ {w : World} {g : Nat} {t : TypeId} {L : List Bool} (o : Nat), Blk w g t (bv L) → o + M.length ≤ L.length →
    ∃ L', Blk (w.setCells g o (M.map Value.bool)) g t (bv L') ∧ L'.length = L.length ∧ (∀ i, L'.getD i false = if o ≤ i ∧ i < o + M.length then M.getD (i - o) false else L.getD i false) ∧ Only w (w.setCells g o (M.map Value.bool)) [g] := by
  induction M with
  | nil => intro w g t L o h _; exact ⟨L, h, rfl, fun i => by rw [if_neg (by simp)], Only.refl _ _⟩
  | cons x M ih =>
    intro w g t L o h hl
    have h1 := h.set_ o (.bool x)
    rw [bv_set] at h1
    obtain ⟨L', h2, h3, h4, h5⟩ := ih (o + 1) h1 (by simp at hl ⊢; omega)
    refine ⟨L', h2, by simpa using h3, fun i => ?_, ((Only.refl w [g]).setCell (by simp) _).trans h5⟩
    rw [h4 i]
    by_cases e : i = o
    · subst e
      rw [if_neg (by omega), if_pos (by simp)]
      have : i < L.length := by simp at hl; omega
      simp [this]
    · have e2 : o ≠ i := fun x => e x.symm
      have e3 : (L.set o x).getD i false = L.getD i false := by
        rw [List.getD_eq_getElem?_getD, List.getElem?_set_ne e2, List.getD_eq_getElem?_getD]
      by_cases hi : o + 1 ≤ i ∧ i < o + 1 + M.length
      · rw [if_pos hi, if_pos (by simp; omega)]
        obtain ⟨j, rfl⟩ : ∃ j, i = o + 1 + j := ⟨i - (o + 1), by omega⟩
        rw [show o + 1 + j - (o + 1) = j by omega, show o + 1 + j - o = j + 1 by omega]
        simp
      · rw [if_neg hi, if_neg (by simp; omega), e3]

theorem Gr.of_only {w w' : World} {g : Nat} {ws : Nat → List Int} {S : List Nat} (h : Gr w g ws) (ho : Only w w' S) (hg : g ∉ S) (hS : ∀ g' cur, Blk w g' 3 cur → g' ∉ S) : Gr w' g ws := by
  obtain ⟨cs, hb, hs, hr⟩ := h.rows
  refine ⟨⟨cs, ho.blk hb hg, hs, fun i hi => ?_⟩, h.len, h.rng⟩
  obtain ⟨v, hv, hm⟩ := hr i hi
  exact ⟨v, hv, hm.only ho (fun g' hg' => by obtain ⟨_, cur, hc⟩ := hm.block g' hg'; exact hS g' cur hc)⟩

theorem asc_ext : ∀ (l1 l2 : List Int), l1.Pairwise (· < ·) → l2.Pairwise (· < ·) → (∀ x, x ∈ l1 ↔ x ∈ l2) → l1 = l2
  | [], [], _, _, _ => rfl
  | [], b :: l2, _, _, h => by have := (h b).2 (by simp); simp at this
  | a :: l1, [], _, _, h => by have := (h a).1 (by simp); simp at this
  | a :: l1, b :: l2, h1, h2, h => by
    have ha := List.pairwise_cons.1 h1
    have hb := List.pairwise_cons.1 h2
    have e : a = b := by
      have m1 := (h a).1 (by simp)
      have m2 := (h b).2 (by simp)
      rcases List.mem_cons.1 m1 with e | m1
      · exact e
      · rcases List.mem_cons.1 m2 with e | m2
        · exact e.symm
        · have q1 := hb.1 a m1
          have q2 := ha.1 b m2
          omega
    subst e
    congr 1
    refine asc_ext l1 l2 ha.2 hb.2 fun x => ?_
    constructor
    · intro hx
      have := (h x).1 (by simp [hx])
      rcases List.mem_cons.1 this with e | m
      · subst e; have := ha.1 x hx; omega
      · exact m
    · intro hx
      have := (h x).2 (by simp [hx])
      rcases List.mem_cons.1 this with e | m
      · subst e; have := hb.1 x hx; omega
      · exact m

def pf (p : Nat → Bool) (x : Nat) : List Nat := (List.range x).filter p
theorem pf_succ (p : Nat → Bool) (x : Nat) : pf p (x + 1) = pf p x ++ (if p x = true then [x] else []) := by
  unfold pf
  rw [List.range_succ, List.filter_append]
  simp [List.filter_cons]
theorem pf_le (p : Nat → Bool) (x : Nat) : (pf p x).length ≤ x := Nat.le_trans (List.length_filter_le _ _) (by simp)
theorem pf_pre (p : Nat → Bool) (x d : Nat) : ∃ r, pf p (x + d) = pf p x ++ r := by
  induction d with
  | zero => exact ⟨[], by simp⟩
  | succ d ih =>
    obtain ⟨r, h⟩ := ih
    exact ⟨r ++ (if p (x + d) = true then [x + d] else []), by rw [show x + (d + 1) = x + d + 1 by omega, pf_succ, h, List.append_assoc]⟩
theorem pf_at (p : Nat → Bool) (x : Nat) (hx : x < 16) (hp : p x = true) : (pf p x).length < (pf p 16).length ∧ (pf p 16).getD (pf p x).length 0 = x := by
  obtain ⟨r, h⟩ := pf_pre p (x + 1) (15 - x)
  rw [show x + 1 + (15 - x) = 16 by omega, pf_succ p x, if_pos hp] at h
  rw [h]
  constructor
  · simp
  · simp
theorem asc_pf (l : List Int) (h : l.Pairwise (· < ·)) (hr : ∀ x ∈ l, 0 ≤ x ∧ x < 16) : l = ii (pf (fun x => decide ((x : Int) ∈ l)) 16) := by
  refine asc_ext _ _ h ?_ fun x => ?_
  · unfold ii pf
    rw [List.pairwise_map]
    refine List.Pairwise.filter _ ?_
    exact List.pairwise_lt_range.imp (fun h => by omega)
  · constructor
    · intro hx
      have := hr x hx
      obtain ⟨n, rfl⟩ := Int.eq_ofNat_of_zero_le this.1
      exact List.mem_map.2 ⟨n, List.mem_filter.2 ⟨by simp; omega, by simpa using hx⟩, rfl⟩
    · intro hx
      obtain ⟨n, hn, rfl⟩ := List.mem_map.1 hx
      simpa using (List.mem_filter.1 hn).2

/-- Who is in one's circle, by the law's own table. -/
def incF (F : List Bool) (who x : Nat) : Bool := at2 F who who && (decide (x = who) || (at2 F who x && at2 F x who))
theorem circ_eq {ws : Nat → List Int} {F : List Bool} {who : Nat} (hl : ∀ i, i < 16 → (ws i).length ≤ 16) (hr : ∀ i, i < 16 → ∀ x ∈ ws i, 0 ≤ x ∧ x < 16) (h : War ws 16 0 0 F) (hw : who < 16) :
    circ ws who = pf (incF F who) 16 := by
  have e : ∀ a b : Nat, a < 16 → b < 16 → reachB ws a b = at2 F a b := fun a b ha hb => by
    rw [Bool.eq_iff_iff, reach_iff ws hl hr a b ha, h.iff ha hb]
  unfold circ pf
  rw [e who who hw hw]
  cases h0 : at2 F who who with
  | true =>
    rw [if_pos rfl]
    refine List.filter_congr fun x hx => ?_
    have hx16 : x < 16 := by simpa using hx
    unfold inC incF
    rw [e who x hw hx16, e x who hx16 hw, h0, Bool.true_and]
  | false =>
    rw [if_neg (by simp)]
    symm
    rw [List.filter_eq_nil_iff]
    intro x _
    unfold incF
    rw [h0]
    simp
def ageB (us : List Int) (b : Int) : Int := if b < 0 then 0 else us.getD b.toNat 0
theorem or_t {a b : Bool} (h : a = true) : true = (a || b) := by rw [h]; rfl
theorem or_f {a b : Bool} (h : ¬ a = true) : b = (a || b) := by cases a <;> simp_all

/-- 'any', as the law gathers it. -/
structure AnyI (L : List Bool) (k i j : Nat) (av : Bool) : Prop where
  sound : av = true → ∃ a b, a < 16 ∧ b < 16 ∧ at2 L a b = true
  all : ∀ a b, a < 16 → b < 16 → (0 < k ∨ a < i ∨ (a = i ∧ b < j)) → at2 L a b = true → av = true
theorem AnyI.step {L : List Bool} {k i j : Nat} {av : Bool} (h : AnyI L k i j av) (hi : i < 16) (hj : j < 16) : AnyI L k i (j + 1) (av || at2 L i j) := by
  refine ⟨fun hx => ?_, fun a b ha hb hab hx => ?_⟩
  · rcases Bool.or_eq_true _ _ |>.mp hx with h1 | h1
    · exact h.sound h1
    · exact ⟨i, j, hi, hj, h1⟩
  · by_cases e : a = i ∧ b = j
    · obtain ⟨rfl, rfl⟩ := e; rw [hx]; simp
    · rw [h.all a b ha hb (by omega) hx]; rfl
theorem AnyI.row {L : List Bool} {k i : Nat} {av : Bool} (h : AnyI L k i 16 av) : AnyI L k (i + 1) 0 av := ⟨h.sound, fun a b ha hb hab hx => h.all a b ha hb (by omega) hx⟩
theorem AnyI.phase {L : List Bool} {k : Nat} {av : Bool} (h : AnyI L k 16 0 av) : AnyI L (k + 1) 0 0 av := ⟨h.sound, fun a b ha hb hab hx => h.all a b ha hb (by omega) hx⟩

theorem waits_eq {ws : Nat → List Int} {L : List Bool} {av : Bool} (hr : ∀ i, i < 16 → ∀ x ∈ ws i, 0 ≤ x ∧ x < 16) (hat : ∀ a b, a < 16 → b < 16 → at2 L a b = decide ((b : Int) ∈ ws a)) (h : AnyI L 16 0 0 av) : waitsB ws = av := by
  rw [Bool.eq_iff_iff]
  constructor
  · intro hw
    unfold waitsB at hw
    obtain ⟨a, ha, hl⟩ := List.any_eq_true.1 hw
    have ha16 : a < 16 := by simpa using ha
    have hl0 : 0 < (ws a).length := by simpa using hl
    have hm := List.getElem_mem hl0
    have hx := hr a ha16 _ hm
    obtain ⟨y, hy⟩ := Int.eq_ofNat_of_zero_le hx.1
    rw [hy] at hm hx
    exact h.all a y ha16 (by omega) (by omega) (by rw [hat a y ha16 (by omega)]; simpa using hm)
  · intro hav
    obtain ⟨a, b, ha, hb, hx⟩ := h.sound hav
    rw [hat a b ha hb] at hx
    have hm : (b : Int) ∈ ws a := by simpa using hx
    exact waits_hit ha (List.length_pos_of_mem hm)

theorem pick_cases (us : List Int) (vb : Int) (x : Nat) (h : -1 ≤ vb) : (vb < 0 ∧ pick1 us vb x = x) ∨ ∃ y : Nat, vb = y ∧ ((ageB us vb ≤ us.getD x 0 ∧ pick1 us vb x = x) ∨ (us.getD x 0 < ageB us vb ∧ pick1 us vb x = vb)) := by
  by_cases hb : vb < 0
  · exact .inl ⟨hb, by simp [pick1, older, hb]⟩
  · right
    obtain ⟨y, rfl⟩ := Int.eq_ofNat_of_zero_le (show 0 ≤ vb by omega)
    refine ⟨y, rfl, ?_⟩
    have e : ageB us (y : Int) = us.getD y 0 := by simp only [ageB]; rw [if_neg hb, Int.toNat_natCast]
    rw [e]
    by_cases ho : us.getD y 0 ≤ us.getD x 0
    · exact .inl ⟨ho, by simp only [pick1, older, Int.toNat_natCast, decide_eq_true ho]; simp⟩
    · exact .inr ⟨by omega, by simp only [pick1, older, Int.toNat_natCast, decide_eq_false ho, decide_eq_false hb]; simp⟩
theorem age_pos (us : List Int) (x : Nat) : ageB us (x : Int) = us.getD x 0 := by simp only [ageB]; rw [if_neg (by omega), Int.toNat_natCast]


/-- The outermost loops of a piece of code, in order. -/
def loops : Code → List Code
  | .loop c => [c]
  | .seq a b => loops a ++ loops b
  | .block _ c => loops c
  | .scope c => loops c
  | .cond _ a b => loops a ++ loops b
  | _ => []
noncomputable def body1 : Code := ((Try.f3.body.map loops).getD []).getD 0 .skip
noncomputable def body2 : Code := ((Try.f3.body.map loops).getD []).getD 1 .skip
noncomputable def body3 : Code := ((Try.f3.body.map loops).getD []).getD 2 .skip

end Go.Proofs.Ytmnakommidgmnaa
