import Derived.Test.YtmnakommidgmnaaW8
namespace Go.Proofs.Ytmnakommidgmnaa
open Go.RowKit
set_option linter.unusedVariables false

/-! ### Ways by edges -/
inductive Pth (ws : Nat → List Int) (k : Nat) : Nat → Nat → Prop
  | edge {a b : Nat} : (b : Int) ∈ ws a → Pth ws k a b
  | via {a b c : Nat} : Pth ws k a c → c < k → Pth ws k c b → Pth ws k a b

theorem pth_up {ws : Nat → List Int} {k : Nat} {a b : Nat} (h : Pth ws (k + 1) a b) : Pth ws k a b ∨ (Pth ws k a k ∧ Pth ws k k b) := by
  induction h with
  | edge h => exact .inl (.edge h)
  | @via a b c _ hc _ ih1 ih2 =>
    by_cases e : c = k
    · subst e
      right
      constructor
      · rcases ih1 with h | h
        · exact h
        · exact h.1
      · rcases ih2 with h | h
        · exact h
        · exact h.2
    · have hk : c < k := by omega
      rcases ih1 with h1 | h1 <;> rcases ih2 with h2 | h2
      · exact .inl (.via h1 hk h2)
      · exact .inr ⟨.via h1 hk h2.1, h2.2⟩
      · exact .inr ⟨h1.1, .via h1.2 hk h2⟩
      · exact .inr ⟨h1.1, h2.2⟩
theorem pth_zero {ws : Nat → List Int} {a b : Nat} (h : Pth ws 0 a b) : (b : Int) ∈ ws a := by
  cases h with
  | edge h => exact h
  | via _ hc _ => omega

/-! ### The search finds just these -/
theorem bfs_sound (ws : Nat → List Int) (hr : ∀ i, i < 16 → ∀ x ∈ ws i, 0 ≤ x ∧ x < 16) (d : Nat) : ∀ (q : Nat) (seen : List Bool) (todo : List Int), (∀ x ∈ todo, 0 ≤ x ∧ x < 16) → bfs ws d q seen todo = true →
    ∃ x : Nat, (x : Int) ∈ todo ∧ (x = d ∨ Pth ws 16 x d) := by
  intro q
  induction q with
  | zero => intro seen todo _ h; simp [bfs] at h
  | succ q ih =>
    intro seen todo ht h
    rcases todo with _ | ⟨x, todo⟩
    · simp [bfs] at h
    · have hx := ht x (by simp)
      obtain ⟨n, rfl⟩ := Int.eq_ofNat_of_zero_le hx.1
      rw [bfs] at h
      by_cases e : (n : Int) = (d : Int)
      · exact ⟨n, by simp, .inl (by omega)⟩
      · rw [if_neg e] at h
        by_cases hs : seen.getD (n : Int).toNat false = true
        · rw [if_pos hs] at h
          obtain ⟨y, hy, h⟩ := ih _ _ (fun z hz => ht z (by simp [hz])) h
          exact ⟨y, by simp [hy], h⟩
        · rw [if_neg hs] at h
          obtain ⟨y, hy, h⟩ := ih _ _ (fun z hz => by
            rcases List.mem_append.1 hz with hz | hz
            · exact ht z (by simp [hz])
            · exact hr n (by omega) z hz) h
          rcases List.mem_append.1 hy with hy | hy
          · exact ⟨y, by simp [hy], h⟩
          · refine ⟨n, by simp, .inr ?_⟩
            have hyr := hr n (by omega) y hy
            rcases h with rfl | h
            · exact .edge hy
            · exact .via (.edge hy) (by omega) h

theorem bfs_complete (ws : Nat → List Int) (hl : ∀ i, i < 16 → (ws i).length ≤ 16) (hr : ∀ i, i < 16 → ∀ x ∈ ws i, 0 ≤ x ∧ x < 16) (d : Nat) : ∀ (q : Nat) (seen : List Bool) (todo : List Int),
    seen.length = 16 → weight seen todo < q → (∀ x ∈ todo, 0 ≤ x ∧ x < 16) → (∀ a, a < 16 → seen.getD a false = true → a ≠ d ∧ ∀ y : Nat, (y : Int) ∈ ws a → seen.getD y false = true ∨ (y : Int) ∈ todo) → bfs ws d q seen todo = false →
    ∃ S : Nat → Prop, (∀ a, a < 16 → seen.getD a false = true → S a) ∧ (∀ x : Nat, (x : Int) ∈ todo → S x) ∧ ∀ a, S a → a ≠ d ∧ a < 16 ∧ ∀ y : Nat, (y : Int) ∈ ws a → S y := by
  intro q
  induction q with
  | zero => intro seen todo _ hw; omega
  | succ q ih =>
    intro seen todo hsl hw ht hc h
    rcases todo with _ | ⟨x, todo⟩
    · refine ⟨fun a => a < 16 ∧ seen.getD a false = true, fun a ha hs => ⟨ha, hs⟩, fun x hx => by simp at hx, fun a ha => ?_⟩
      obtain ⟨h1, h2⟩ := hc a ha.1 ha.2
      refine ⟨h1, ha.1, fun y hy => ?_⟩
      rcases h2 y hy with h3 | h3
      · exact ⟨by have := hr a ha.1 y hy; omega, h3⟩
      · simp at h3
    · have hx := ht x (by simp)
      obtain ⟨n, rfl⟩ := Int.eq_ofNat_of_zero_le hx.1
      have hn : n < 16 := by omega
      rw [bfs] at h
      by_cases e : (n : Int) = (d : Int)
      · rw [if_pos e] at h; simp at h
      · rw [if_neg e] at h
        rw [Int.toNat_natCast] at h
        by_cases hs : seen.getD n false = true
        · rw [if_pos hs] at h
          obtain ⟨S, h1, h2, h3⟩ := ih seen todo hsl (by simp [weight] at hw ⊢; omega) (fun z hz => ht z (by simp [hz])) (fun a ha hsa => by
            obtain ⟨g1, g2⟩ := hc a ha hsa
            refine ⟨g1, fun y hy => ?_⟩
            rcases g2 y hy with g3 | g3
            · exact .inl g3
            · rcases List.mem_cons.1 g3 with g3 | g3
              · left
                have : y = n := by omega
                subst this; exact hs
              · exact .inr g3) h
          refine ⟨S, h1, fun y hy => ?_, h3⟩
          rcases List.mem_cons.1 hy with hy | hy
          · have : y = n := by omega
            subst this; exact h1 y hn hs
          · exact h2 y hy
        · rw [if_neg hs] at h
          have hs' : seen.getD n false = false := by simpa using hs
          have hcnt := count_set_true seen n (by omega) hs'
          have hln := hl n hn
          have hset : ∀ a, a < 16 → (seen.set n true).getD a false = if a = n then true else seen.getD a false := by
            intro a ha
            by_cases e' : a = n
            · subst e'; simp [hsl, ha]
            · have e2 : n ≠ a := fun x => e' x.symm
              rw [if_neg e', List.getD_eq_getElem?_getD, List.getElem?_set_ne e2, List.getD_eq_getElem?_getD]
          obtain ⟨S, h1, h2, h3⟩ := ih (seen.set n true) (todo ++ ws n) (by simpa using hsl) (by simp [weight] at hw ⊢; omega) (fun z hz => by
            rcases List.mem_append.1 hz with hz | hz
            · exact ht z (by simp [hz])
            · exact hr n hn z hz) (fun a ha hsa => by
            rw [hset a ha] at hsa
            by_cases e' : a = n
            · subst e'
              exact ⟨by omega, fun y hy => .inr (by simp [hy])⟩
            · rw [if_neg e'] at hsa
              obtain ⟨g1, g2⟩ := hc a ha hsa
              refine ⟨g1, fun y hy => ?_⟩
              have hy16 := hr a ha y hy
              rw [hset y (by omega)]
              rcases g2 y hy with g3 | g3
              · left; split
                · rfl
                · exact g3
              · rcases List.mem_cons.1 g3 with g3 | g3
                · left
                  rw [if_pos (by omega)]
                · exact .inr (by simp [g3])) h
          refine ⟨S, fun a ha hsa => h1 a ha ?_, fun y hy => ?_, h3⟩
          · rw [hset a ha]; split
            · rfl
            · exact hsa
          · rcases List.mem_cons.1 hy with hy | hy
            · have : y = n := by omega
              subst this
              exact h1 y hn (by rw [hset y hn, if_pos rfl])
            · exact h2 y (by simp [hy])

theorem rep_false (n a : Nat) : (List.replicate n false).getD a false = false := by
  rw [List.getD_eq_getElem?_getD, List.getElem?_replicate]
  split <;> rfl
theorem reach_iff (ws : Nat → List Int) (hl : ∀ i, i < 16 → (ws i).length ≤ 16) (hr : ∀ i, i < 16 → ∀ x ∈ ws i, 0 ≤ x ∧ x < 16) (s d : Nat) (hs : s < 16) : reachB ws s d = true ↔ Pth ws 16 s d := by
  unfold reachB
  constructor
  · intro h
    obtain ⟨x, hx, h⟩ := bfs_sound ws hr d 300 _ _ (hr s hs) h
    have hxr := hr s hs x hx
    rcases h with rfl | h
    · exact .edge hx
    · exact .via (.edge hx) (by omega) h
  · intro hp
    cases hb : bfs ws (d : Int) 300 (List.replicate 16 false) (ws s) with
    | true => rfl
    | false =>
      exfalso
      have hls := hl s hs
      obtain ⟨S, _, h2, h3⟩ := bfs_complete ws hl hr d 300 _ _ (by simp) (by simp [weight]; omega) (hr s hs) (fun a ha h => by rw [rep_false] at h; cases h) hb
      have key : ∀ a b, Pth ws 16 a b → (a = s ∨ S a) → S b := by
        intro a b h
        induction h with
        | edge h =>
          rintro (rfl | ha)
          · exact h2 _ h
          · exact (h3 _ ha).2.2 _ h
        | via _ _ _ ih1 ih2 => intro ha; exact ih2 (.inr (ih1 ha))
      exact (h3 d (key s d hp (.inl rfl))).1 rfl

/-! ### Warshall's rounds -/
def at2 (L : List Bool) (a b : Nat) : Bool := L.getD (a * 16 + b) false
structure War (ws : Nat → List Int) (k i j : Nat) (L : List Bool) : Prop where
  len : L.length = 256
  sound : ∀ a b, a < 16 → b < 16 → at2 L a b = true → Pth ws 16 a b
  have_ : ∀ a b, a < 16 → b < 16 → Pth ws k a b → at2 L a b = true
  done : ∀ a b, a < 16 → b < 16 → (a < i ∨ (a = i ∧ b < j)) → Pth ws (k + 1) a b → at2 L a b = true

theorem at2_set (L : List Bool) (x : Bool) {i j a b : Nat} (hl : L.length = 256) (hi : i < 16) (hj : j < 16) (ha : a < 16) (hb : b < 16) :
    at2 (L.set (i * 16 + j) x) a b = if a = i ∧ b = j then x else at2 L a b := by
  unfold at2
  by_cases e : a = i ∧ b = j
  · obtain ⟨rfl, rfl⟩ := e
    rw [if_pos ⟨rfl, rfl⟩]
    simp [show a * 16 + b < L.length by omega]
  · rw [if_neg e]
    have : i * 16 + j ≠ a * 16 + b := by omega
    simp [List.getElem?_set, this]

theorem War.step {ws : Nat → List Int} {k i j : Nat} {L : List Bool} (h : War ws k i j L) (hk : k < 16) (hi : i < 16) (hj : j < 16) :
    War ws k i (j + 1) (L.set (i * 16 + j) (at2 L i j || (at2 L i k && at2 L k j))) := by
  refine ⟨by simpa using h.len, fun a b ha hb => ?_, fun a b ha hb hp => ?_, fun a b ha hb hab hp => ?_⟩
  · rw [at2_set L _ h.len hi hj ha hb]
    split
    · rename_i e
      obtain ⟨rfl, rfl⟩ := e
      intro hx
      rcases Bool.or_eq_true _ _ |>.mp hx with h1 | h1
      · exact h.sound a b ha hb h1
      · have := Bool.and_eq_true _ _ |>.mp h1
        exact .via (h.sound a k ha hk this.1) hk (h.sound k b hk hb this.2)
    · exact h.sound a b ha hb
  · rw [at2_set L _ h.len hi hj ha hb]
    split
    · rename_i e
      obtain ⟨rfl, rfl⟩ := e
      rw [h.have_ a b ha hb hp]; rfl
    · exact h.have_ a b ha hb hp
  · rw [at2_set L _ h.len hi hj ha hb]
    split
    · rename_i e
      obtain ⟨rfl, rfl⟩ := e
      rcases pth_up hp with h1 | h1
      · rw [h.have_ a b ha hb h1]; rfl
      · rw [h.have_ a k ha hk h1.1, h.have_ k b hk hb h1.2]; simp
    · rename_i e
      exact h.done a b ha hb (by omega) hp
theorem War.row {ws : Nat → List Int} {k i : Nat} {L : List Bool} (h : War ws k i 16 L) : War ws k (i + 1) 0 L :=
  ⟨h.len, h.sound, h.have_, fun a b ha hb hab hp => h.done a b ha hb (by omega) hp⟩
theorem War.phase {ws : Nat → List Int} {k : Nat} {L : List Bool} (h : War ws k 16 0 L) : War ws (k + 1) 0 0 L :=
  ⟨h.len, h.sound, fun a b ha hb hp => h.done a b ha hb (by omega) hp, fun a b ha hb hab hp => by omega⟩
theorem War.begin {ws : Nat → List Int} {L : List Bool} (hl : L.length = 256) (h : ∀ a b, a < 16 → b < 16 → at2 L a b = decide ((b : Int) ∈ ws a)) : War ws 0 0 0 L :=
  ⟨hl, fun a b ha hb h1 => .edge (by rw [h a b ha hb] at h1; simpa using h1), fun a b ha hb hp => by rw [h a b ha hb]; simpa using pth_zero hp, fun a b ha hb hab hp => by omega⟩
theorem War.iff {ws : Nat → List Int} {L : List Bool} (h : War ws 16 0 0 L) {a b : Nat} (ha : a < 16) (hb : b < 16) : at2 L a b = true ↔ Pth ws 16 a b :=
  ⟨h.sound a b ha hb, h.have_ a b ha hb⟩
end Go.Proofs.Ytmnakommidgmnaa
