import Derived.Test.YtahhbgfibelfaaaDoorL7
import Derived.OwnWalk
import Derived.Deep.MidRow
namespace Go.Proofs.YtahhbgfibelfaaaDoor
open Go.RowKit Go.Lib
set_option linter.unusedVariables false



/-- All marks, in the order of the program. -/
def marksL : List (List UInt8) := [[45, 62], [60, 45], [33, 61], [60, 61], [62, 61], [40], [41], [91], [93], [123], [125], [58], [44], [46], [45], [60], [62], [61]]
def mB (j : Nat) : List UInt8 := marksL.getD j []

theorem u8beq (a x : UInt8) : (x == a) = (a.toNat == x.toNat) := by
  rw [Bool.eq_iff_iff, beq_iff_eq, beq_iff_eq]
  exact ⟨fun h => by rw [h], fun h => (UInt8.toNat_inj.1 h).symm⟩
theorem mk2_pre (a b : UInt8) (r : List UInt8) : mk2 a b = ((mB 0).isPrefixOf (a :: b :: r) || (mB 1).isPrefixOf (a :: b :: r) || (mB 2).isPrefixOf (a :: b :: r) || (mB 3).isPrefixOf (a :: b :: r) || (mB 4).isPrefixOf (a :: b :: r)) := by
  unfold mk2
  simp only [mB, marksL, List.getD_cons_zero, List.getD_cons_succ, List.isPrefixOf, Bool.and_true, u8beq]
  rfl
theorem mk1_pre (a : UInt8) (r : List UInt8) : mk1 a = ((mB 5).isPrefixOf (a :: r) || (mB 6).isPrefixOf (a :: r) || (mB 7).isPrefixOf (a :: r) || (mB 8).isPrefixOf (a :: r) || (mB 9).isPrefixOf (a :: r) || (mB 10).isPrefixOf (a :: r) || (mB 11).isPrefixOf (a :: r) || (mB 12).isPrefixOf (a :: r) || (mB 13).isPrefixOf (a :: r) || (mB 14).isPrefixOf (a :: r) || (mB 15).isPrefixOf (a :: r) || (mB 16).isPrefixOf (a :: r) || (mB 17).isPrefixOf (a :: r)) := by
  unfold mk1
  simp only [mB, marksL, List.getD_cons_zero, List.getD_cons_succ, List.isPrefixOf, Bool.and_true, u8beq, List.contains_cons, List.contains_nil, Bool.or_false, Bool.or_assoc]
  rfl
theorem mB_two {k : Nat} (h : k < 5) (a : UInt8) : (mB k).isPrefixOf [a] = false := by
  rcases k with _|_|_|_|_|k <;> first | omega | simp [mB, marksL, List.isPrefixOf]
theorem mark_first (L : List UInt8) (j : Nat) (hj : j < 18) (hno : ∀ k, k < j → (mB k).isPrefixOf L = false) (hyes : (mB j).isPrefixOf L = true) : mk L = (mB j).length := by
  have big : ∀ {a : UInt8} {r : List UInt8}, 5 ≤ j → (mB j).isPrefixOf (a :: r) = true → mk1 a = true ∧ (mB j).length = 1 := by
    intro a r h5 h
    rw [mk1_pre a r]
    rcases j with _|_|_|_|_|_|_|_|_|_|_|_|_|_|_|_|_|_|j <;> first | omega | exact ⟨by rw [h]; simp, rfl⟩
  match L with
  | [] => exfalso; rcases j with _|_|_|_|_|_|_|_|_|_|_|_|_|_|_|_|_|_|j <;> first | (simp [mB, marksL] at hyes; done) | omega
  | [a] =>
    by_cases h5 : j < 5
    · rw [mB_two h5] at hyes; cases hyes
    · obtain ⟨h1, h2⟩ := big (by omega) hyes
      show (if mk1 a then 1 else 0) = _
      rw [h1, h2]; rfl
  | a :: b :: r =>
    show (if mk2 a b then 2 else if mk1 a then 1 else 0) = _
    by_cases h5 : j < 5
    · have h2 : mk2 a b = true := by
        rw [mk2_pre a b r]
        rcases j with _|_|_|_|_|j <;> first | omega | (rw [hyes]; simp)
      rw [h2]
      rcases j with _|_|_|_|_|j <;> first | omega | rfl
    · obtain ⟨h1, h2⟩ := big (by omega) hyes
      have h3 : mk2 a b = false := by
        rw [mk2_pre a b r, hno 0 (by omega), hno 1 (by omega), hno 2 (by omega), hno 3 (by omega), hno 4 (by omega)]; rfl
      rw [h1, h2, h3]; rfl
theorem mark_none (L : List UInt8) (hno : ∀ k, k < 18 → (mB k).isPrefixOf L = false) : mk L = 0 := by
  have h1 : ∀ (a : UInt8) (r : List UInt8), L = a :: r → mk1 a = false := by
    intro a r e
    subst e
    rw [mk1_pre a r, hno 5 (by omega), hno 6 (by omega), hno 7 (by omega), hno 8 (by omega), hno 9 (by omega), hno 10 (by omega), hno 11 (by omega), hno 12 (by omega), hno 13 (by omega), hno 14 (by omega), hno 15 (by omega), hno 16 (by omega), hno 17 (by omega)]; rfl
  match L with
  | [] => rfl
  | [a] => show (if mk1 a then 1 else 0) = _; rw [h1 a [] rfl]; rfl
  | a :: b :: r =>
    show (if mk2 a b then 2 else if mk1 a then 1 else 0) = _
    rw [h1 a _ rfl, mk2_pre a b r, hno 0 (by omega), hno 1 (by omega), hno 2 (by omega), hno 3 (by omega), hno 4 (by omega)]; rfl
/-- The marks lie as the program's variable says. -/
def Marks (w : World) : Prop := ∀ j, j < 18 → w.cell? ⟨1, j, none⟩ = some (.string ⟨(mB j).toArray⟩)
theorem Marks.below {B : Nat} {w w' : World} (h : Marks w) (hb : Below B w w') (hB : 1 < B) : Marks w' := fun j hj => by
  rw [World.cell?_of_block (w := w) (hb.block 1 hB)]; exact h j hj
def marksC : List Value := marksL.map fun l => .string ⟨l.toArray⟩
theorem marksC_at (j : Nat) (hj : j < 18) : marksC[j]? = some (.string ⟨(mB j).toArray⟩) := by
  have h : j < marksL.length := hj
  unfold marksC mB
  simp [List.getElem?_map, List.getElem?_eq_getElem h]
theorem huMarks : Tryd.prog.underlying 96 = some (.array 18 9) := by kernel_rfl
theorem index_mark (cs : Array Value) (j : Nat) (hj : j < 18) {v : ByteArray} (hv : cs[j]? = some (.string v)) (w : World) : (Instr.index 96 (.agg cs) (.int .i64 (j : Int))).run Tryd.prog w = .ok (.string v) w := by
  have hc : (0 : Int) ≤ (j : Int) ∧ (j : Int) < ((18 : Nat) : Int) := by omega
  simp [Instr.index, run_underlying huMarks, asIntOf, hc, go_sem, part, hj, hv]

theorem marks_range {w : World} (hM : Marks w) : w.rangeAt 1 0 marksC := by
  intro j v hj
  have hl : j < 18 := (List.getElem?_eq_some_iff.1 hj).1
  rw [marksC_at j hl] at hj
  rw [Nat.zero_add, hM j hl, hj]
theorem marks_index (j : Nat) (hj : j < 18) (w : World) : (Instr.index 96 (.agg marksC.toArray) (.int .i64 (j : Int))).run Tryd.prog w = .ok (.string ⟨(mB j).toArray⟩) w :=
  index_mark _ j hj (by simpa using marksC_at j hj) w
theorem take_pre {L p : List UInt8} (h : p.isPrefixOf L = true) : L.take p.length = p := by
  obtain ⟨t, rfl⟩ := List.isPrefixOf_iff_prefix.1 h
  exact List.take_left

set_option maxHeartbeats 4000000 in
set_option maxRecDepth 10000 in
theorem mark_lex (s : ByteArray) (hs : s.size ≤ 1000000) (w : World) (hM : Marks w) :
    Calls Tryd.prog 33 #[.string s] w fun e w' => e = .returned (.string ⟨((rem s 0).take (mk (rem s 0))).toArray⟩) ∧ w = w' := by
  have HRG := Lib.hid (marks_range hM)
  have HX := Lib.hid marks_index
  have HP := Lib.hid fun j w => Tryd.strings_HasPrefix s ⟨(mB j).toArray⟩ w
  have e0 : s.data.toList = rem s 0 := rfl
  rw [e0] at HP
  clear hM e0
  generalize rem s 0 = L at *
  generalize hT : (⟨(L.take (mk L)).toArray⟩ : ByteArray) = T at *
  have HT := Lib.hid hT
  clear hT
  go_enter Tryd.func33, Tryd.ntmps33
  go_wp2_with (refine wpList_load_mid rfl 96 (.global 1) rfl 1 0 rfl marksC (.array 18 9) HRG.out huMarks rfl (by kernel_rfl) ?_; generalize Value.agg marksC.toArray = MS at *)
  go_loopg [4, 6] 18 (fun q m i wr => ∃ (j : Nat), q + j = 18 ∧ i = .int .i64 (j : Int) ∧ (∀ k, k < j → (mB k).isPrefixOf L = false) ∧ wr = w)
  case atStart => exact ⟨0, rfl, rfl, (fun k hk => by omega), rfl⟩
  case round =>
    obtain ⟨j, hj, rfl, hno, rfl⟩ := hrel
    have HNO := Lib.hid hno
    clear hno
    by_cases hlt : j < 18
    · have hx := HX.out j hlt
      have HPJ := Lib.hid (HP.out j)
      cases hp : (mB j).isPrefixOf L with
      | true =>
        have hmk := mark_first L j hlt HNO.out hp
        have htk := take_pre hp
        rw [← hmk] at htk
        have hTM : (⟨(mB j).toArray⟩ : ByteArray) = T := by rw [← HT.out, htk]
        have HPJ : Hid (∀ w, Calls Tryd.prog 46 #[.string s, .string ⟨(mB j).toArray⟩] w fun e w' => e = .returned (.bool ((mB j).isPrefixOf L)) ∧ w' = w) := HPJ
        rw [hp] at HPJ
        rw [hTM] at HPJ hx
        clear htk hmk hp hTM
        go_wp2_with (go_at_call 46; refine (HPJ.out _).mono ?_; rintro e w' ⟨rfl, rfl⟩)
        go_ret
        exact ⟨rfl, rfl⟩
      | false =>
        have HPJ : Hid (∀ w, Calls Tryd.prog 46 #[.string s, .string ⟨(mB j).toArray⟩] w fun e w' => e = .returned (.bool ((mB j).isPrefixOf L)) ∧ w' = w) := HPJ
        rw [hp] at HPJ
        have HN : Hid (∀ k, k < j + 1 → (mB k).isPrefixOf L = false) := fun k hk => by
          rcases Nat.lt_or_ge k j with h | h
          · exact HNO.out k h
          · obtain rfl : k = j := by omega
            exact hp
        clear hp
        generalize (⟨(mB j).toArray⟩ : ByteArray) = M at *
        go_wp2_with (go_at_call 46; refine (HPJ.out _).mono ?_; rintro e w' ⟨rfl, rfl⟩)
        go_roundg (gk - 1)
        case measure => omega
        case rel => exact ⟨j + 1, by omega, by go_num, HN.out, rfl⟩
    · have hmk := mark_none L (fun k hk => HNO.out k (by omega))
      have hTM : T = ⟨#[]⟩ := by rw [← HT.out, hmk]; rfl
      have HTM := Lib.hid hTM
      clear hTM hmk
      go_wp2_with fail
      go_ret
      exact ⟨by rw [HTM.out]; rfl, rfl⟩

end Go.Proofs.YtahhbgfibelfaaaDoor
