import Derived.Test.YtkkmjfpmhbafoaaDoorL6
namespace Go.Proofs.YtkkmjfpmhbafoaaDoor
open Go.RowKit Go.Lib
set_option linter.unusedVariables false

structure Wd where
  k : Int
  s : ByteArray
  v : Int
  n : Int
def Wd.cells (x : Wd) : List Value := [.int .i64 x.k, .string x.s, .int .i64 x.v, .int .i64 x.n]
def flat (ws : List Wd) : List Value := ws.flatMap Wd.cells
theorem flat_length (ws : List Wd) : (flat ws).length = ws.length * 4 := by
  induction ws with
  | nil => rfl
  | cons x r ih => unfold flat at *; simp only [List.flatMap_cons, List.length_append, ih, List.length_cons]; simp [Wd.cells]; omega
theorem flat_at (ws : List Wd) (i j : Nat) (hi : i < ws.length) (hj : j < 4) : (flat ws)[i * 4 + j]? = (ws[i]).cells[j]? := by
  induction ws generalizing i with
  | nil => simp at hi
  | cons x r ih =>
    unfold flat at *
    rw [List.flatMap_cons]
    cases i with
    | zero =>
      rw [List.getElem?_append_left (by simp [Wd.cells]; omega)]
      simp
    | succ i =>
      rw [List.getElem?_append_right (by simp [Wd.cells]; omega)]
      have e : (i + 1) * 4 + j - x.cells.length = i * 4 + j := by simp [Wd.cells]; omega
      rw [e, ih i (by simpa using hi)]
      simp
theorem flat_snoc (ws : List Wd) (x : Wd) : flat ws ++ x.cells = flat (ws ++ [x]) := by unfold flat; simp
theorem one_flat (s : ByteArray) (n : Nat) (h : ¬ (oneS s n).2 = 0) : ∃ x : Wd, (oneS s n).1 = x.cells := by
  unfold oneS at h ⊢
  split at h
  · exact absurd rfl h
  · split at h
    · rename_i h1; rw [if_pos h1]; exact ⟨⟨_, _, _, _⟩, rfl⟩
    · split at h
      · rename_i h1 h2; rw [if_neg h1, if_pos h2]
        split at h
        · exact ⟨⟨_, _, _, _⟩, rfl⟩
        · exact absurd rfl h
      · split at h
        · rename_i h1 h2 h3; rw [if_neg h1, if_neg h2, if_pos h3]
          split at h
          · exact ⟨⟨_, _, _, _⟩, rfl⟩
          · exact absurd rfl h
        · rename_i h1 h2 h3; rw [if_neg h1, if_neg h2, if_neg h3]; exact ⟨⟨_, _, _, _⟩, rfl⟩
theorem wds_flat (s : ByteArray) : ∀ (f n : Nat) (ws : List Wd) (o : List Value), wds s f n (flat ws) = .inr o → ∃ ws', o = flat ws'
  | 0, _, ws, o, h => by
    simp only [wds, Sum.inr.injEq] at h
    exact ⟨ws, h.symm⟩
  | f + 1, n, ws, o, h => by
    unfold wds at h
    split at h
    · split at h
      · exact wds_flat s f _ ws o h
      · split at h
        · cases h
        · rename_i h0
          obtain ⟨x, hx⟩ := one_flat s n h0
          rw [hx, flat_snoc] at h
          exact wds_flat s f _ _ o h
    · simp only [Sum.inr.injEq] at h
      exact ⟨ws, h.symm⟩

/-- Words that lie from a place on. -/
def Lies (w : World) (g o : Nat) (ws : List Wd) : Prop := ∀ i (h : i < ws.length), ∀ j u, j < 4 → (ws[i]).cells[j]? = some u → w.cell? ⟨g, o + (i * 4 + j), none⟩ = some u
theorem Lies.of_mid {w : World} {B g o n cap : Nat} {ws : List Wd} (h : Mid w B 35 4 (.slice (some ⟨g, o, none⟩) n cap) n (flat ws)) : Lies w g o ws := by
  obtain ⟨A, cap', hv, _, _, hr⟩ := h.form
  injection hv with e1 e2 e3
  subst e1
  intro i hi j u hj hu
  rw [← flat_at ws i j hi hj] at hu
  obtain ⟨ad, e, hc⟩ := hr.at_ hu
  injection e with e
  subst e
  rw [add_at] at hc
  exact hc
theorem Lies.below {w w' : World} {g o B : Nat} {ws : List Wd} (h : Lies w g o ws) (hb : Below B w w') (hg : g < B) : Lies w' g o ws := fun i hi j u hj hu => by
  rw [World.cell?_of_block (w := w) (hb.block g hg)]; exact h i hi j u hj hu

set_option maxHeartbeats 4000000 in
set_option maxRecDepth 10000 in
theorem same_ok (ga oa gb ob n c c' : Nat) (ws : List Wd) (hn : ws.length = n) (hN : n ≤ 1000000) (w : World) (hA : Lies w ga oa ws) (hB : Lies w gb ob ws) :
    Calls Tryd.prog 9 #[.slice (some ⟨ga, oa, none⟩) n c, .slice (some ⟨gb, ob, none⟩) n c'] w fun e w' => e = .returned (.bool true) ∧ Below w.heap.size w w' := by
  have HA := Lib.hid hA
  have HB := Lib.hid hB
  have HN := Lib.hid hn
  clear hA hB hn
  go_enter Tryd.func9, Tryd.ntmps9
  go_wp2_with fail
  go_loopg [5] n (fun q i wr => ∃ (j : Nat), q + j = n ∧ i = .int .i64 (j : Int) ∧ Below w.heap.size w wr ∧ Lies wr ga oa ws ∧ Lies wr gb ob ws)
  case atStart => exact ⟨0, rfl, rfl, Below.refl _ _, HA.out, HB.out⟩
  case round =>
    obtain ⟨j, hj, rfl, hb, hla, hlb⟩ := hrel
    have HBW := Lib.hid hb
    have HLA := Lib.hid hla
    have HLB := Lib.hid hlb
    clear hb hla hlb HA HB
    by_cases hlt : j < n
    · have hjw : j < ws.length := by rw [HN.out]; exact hlt
      have a0 := HLA.out j hjw 0 _ (by omega) rfl
      have a1 := HLA.out j hjw 1 _ (by omega) rfl
      have a2 := HLA.out j hjw 2 _ (by omega) rfl
      have a3 := HLA.out j hjw 3 _ (by omega) rfl
      have b0 := HLB.out j hjw 0 _ (by omega) rfl
      have b1 := HLB.out j hjw 1 _ (by omega) rfl
      have b2 := HLB.out j hjw 2 _ (by omega) rfl
      have b3 := HLB.out j hjw 3 _ (by omega) rfl
      generalize ws[j] = x at *
      obtain ⟨xk, xs, xv, xn⟩ := x
      simp only [Nat.add_zero, ← Nat.add_assoc] at a0 a1 a2 a3 b0 b1 b2 b3
      go_wp2_with fail
      go_region
      go_wp2_with fail
      go_roundg (gk - 1)
      case measure => omega
      case rel => exact ⟨j + 1, by omega, by go_num, below_drew HBW.out, HLA.out, HLB.out⟩
    · go_wp2_with fail
      go_ret
      exact ⟨rfl, HBW.out⟩
theorem same_nil (w : World) : Calls Tryd.prog 9 #[.slice none 0 0, .slice none 0 0] w fun e w' => e = .returned (.bool true) ∧ Below w.heap.size w w' := by
  go_enter Tryd.func9, Tryd.ntmps9
  go_wp2_with fail
  go_loopg [5] 0 (fun q i wr => i = .int .i64 0 ∧ wr = w)
  case atStart => exact ⟨rfl, rfl⟩
  case round =>
    obtain ⟨rfl, rfl⟩ := hrel
    go_wp2_with fail
    go_ret
    exact ⟨rfl, Below.refl _ _⟩

theorem words_form {w : World} {B k : Nat} {v : Value} {ws : List Wd} (h : Mid w B 35 4 v k (flat ws)) (h0 : ws ≠ []) :
    ∃ g o cap, v = .slice (some ⟨g, o, none⟩) ws.length cap ∧ g < w.heap.size ∧ Lies w g o ws := by
  have hl := h.1
  rw [flat_length] at hl
  have hpos : 0 < ws.length := List.length_pos_iff.2 h0
  have hk : k = ws.length := by omega
  subst hk
  have h' := h
  rcases h.2 with ⟨_, hz⟩ | ⟨g, o, cap, cur, rfl, hb, hh, _⟩
  · omega
  · exact ⟨g, o, cap, rfl, hh.lt, Lies.of_mid h'⟩
end Go.Proofs.YtkkmjfpmhbafoaaDoor
