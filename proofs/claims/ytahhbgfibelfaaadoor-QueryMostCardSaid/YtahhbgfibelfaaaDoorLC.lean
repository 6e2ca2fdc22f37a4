import Derived.Test.YtahhbgfibelfaaaDoorL6
namespace Go.Proofs.YtahhbgfibelfaaaDoor
open Go.RowKit Go.Lib
set_option linter.unusedVariables false



structure Wd where
  k : Int
  s : ByteArray
  v : Int
  n : Int
def Wd.cells (x : Wd) : List Value := [.int .i64 x.k, .string x.s, .int .i64 x.v, .int .i64 x.n]
def flat (ws : List Wd) : List Value := ws.flatMap Wd.cells
theorem flat_length (ws : List Wd) : (flat ws).length = ws.length * 4 := by
  induction ws with
  | nil => rfl
  | cons x r ih => unfold flat at *; simp only [List.flatMap_cons, List.length_append, ih, List.length_cons]; simp [Wd.cells]; omega
theorem flat_at (ws : List Wd) (i j : Nat) (hi : i < ws.length) (hj : j < 4) : (flat ws)[i * 4 + j]? = (ws[i]).cells[j]? := by
  induction ws generalizing i with
  | nil => simp at hi
  | cons x r ih =>
    unfold flat at *
    rw [List.flatMap_cons]
    cases i with
    | zero =>
      rw [List.getElem?_append_left (by simp [Wd.cells]; omega)]
      simp
    | succ i =>
      rw [List.getElem?_append_right (by simp [Wd.cells]; omega)]
      have e : (i + 1) * 4 + j - x.cells.length = i * 4 + j := by simp [Wd.cells]; omega
      rw [e, ih i (by simpa using hi)]
      simp
theorem flat_snoc (ws : List Wd) (x : Wd) : flat ws ++ x.cells = flat (ws ++ [x]) := by unfold flat; simp
theorem one_flat (s : ByteArray) (n : Nat) (h : ¬ (oneS s n).2 = 0) : ∃ x : Wd, (oneS s n).1 = x.cells := by
  unfold oneS at h ⊢
  split at h
  · exact absurd rfl h
  · split at h
    · rename_i h1; rw [if_pos h1]; exact ⟨⟨_, _, _, _⟩, rfl⟩
    · split at h
      · rename_i h1 h2; rw [if_neg h1, if_pos h2]
        split at h
        · exact ⟨⟨_, _, _, _⟩, rfl⟩
        · exact absurd rfl h
      · split at h
        · rename_i h1 h2 h3; rw [if_neg h1, if_neg h2, if_pos h3]
          split at h
          · exact ⟨⟨_, _, _, _⟩, rfl⟩
          · exact absurd rfl h
        · rename_i h1 h2 h3; rw [if_neg h1, if_neg h2, if_neg h3]; exact ⟨⟨_, _, _, _⟩, rfl⟩
theorem wds_flat (s : ByteArray) : ∀ (f n : Nat) (ws : List Wd) (o : List Value), wds s f n (flat ws) = .inr o → ∃ ws', o = flat ws'
  | 0, _, ws, o, h => by
    simp only [wds, Sum.inr.injEq] at h
    exact ⟨ws, h.symm⟩
  | f + 1, n, ws, o, h => by
    unfold wds at h
    split at h
    · split at h
      · exact wds_flat s f _ ws o h
      · split at h
        · cases h
        · rename_i h0
          obtain ⟨x, hx⟩ := one_flat s n h0
          rw [hx, flat_snoc] at h
          exact wds_flat s f _ _ o h
    · simp only [Sum.inr.injEq] at h
      exact ⟨ws, h.symm⟩

/-- Words that lie from a place on. -/
def Lies (w : World) (g o : Nat) (ws : List Wd) : Prop := ∀ i (h : i < ws.length), ∀ j u, j < 4 → (ws[i]).cells[j]? = some u → w.cell? ⟨g, o + (i * 4 + j), none⟩ = some u
theorem Lies.of_mid {w : World} {B g o n cap : Nat} {ws : List Wd} (h : Mid w B 47 4 (.slice (some ⟨g, o, none⟩) n cap) n (flat ws)) : Lies w g o ws := by
  obtain ⟨A, cap', hv, _, _, hr⟩ := h.form
  injection hv with e1 e2 e3
  subst e1
  intro i hi j u hj hu
  rw [← flat_at ws i j hi hj] at hu
  obtain ⟨ad, e, hc⟩ := hr.at_ hu
  injection e with e
  subst e
  rw [add_at] at hc
  exact hc
theorem Lies.below {w w' : World} {g o B : Nat} {ws : List Wd} (h : Lies w g o ws) (hb : Below B w w') (hg : g < B) : Lies w' g o ws := fun i hi j u hj hu => by
  rw [World.cell?_of_block (w := w) (hb.block g hg)]; exact h i hi j u hj hu

theorem words_form {w : World} {B k : Nat} {v : Value} {ws : List Wd} (h : Mid w B 47 4 v k (flat ws)) (h0 : ws ≠ []) :
    ∃ g o cap, v = .slice (some ⟨g, o, none⟩) ws.length cap ∧ g < w.heap.size ∧ Lies w g o ws := by
  have hl := h.1
  rw [flat_length] at hl
  have hpos : 0 < ws.length := List.length_pos_iff.2 h0
  have hk : k = ws.length := by omega
  subst hk
  have h' := h
  rcases h.2 with ⟨_, hz⟩ | ⟨g, o, cap, cur, rfl, hb, hh, _⟩
  · omega
  · exact ⟨g, o, cap, rfl, hh.lt, Lies.of_mid h'⟩

end Go.Proofs.YtahhbgfibelfaaaDoor
