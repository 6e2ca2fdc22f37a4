import Derived.Test.YtahhbgfibelfaaaDoorLA
import Derived.Test.YtahhbgfibelfaaaDoorCards
import Derived.Test.YtahhbgfibelfaaaDoorTie
import Derived.Lay
import Derived.Lib.LaidU8
import Derived.Lib.LaidTab
import Derived.WalkKit
import Derived.ProofKit
import Derived.LaidOnce
import Derived.SevenTiedAt
import Derived.OpenShut
import Derived.ShutString
import Derived.ChangeOld
import Derived.Below
import Derived.ChangeArms
namespace Go.Proofs.YtahhbgfibelfaaaDoor
open Go.RowKit Go.Lib
set_option linter.unusedVariables false

def strData {H : Type} (ls : List (List UInt8)) : DataW H := .agg (ls.map fun l => .lit (.string l))
theorem cells_of_strs {H : Type} {enc : TypeId × Value → H} {P : Program} {w : World} {base : Nat} {sp : Nat → Bool} {held : Bool} {fuel : Nat} {t e : TypeId} {n : Nat} {cs : List Value} {ls : List (List UInt8)} {p : List MemPlace}
    (ht : P.underlying t = some (.array n e)) (he : P.underlying e = some .string) (hce : P.cellsOf e = 1) (hct : P.cellsOf t = n)
    (h : DataW.trod enc P w base sp held fuel t cs = some (strData ls, p)) : cs = ls.map fun l => Value.string ⟨l.toArray⟩ := by
  cases fuel with
  | zero => simp [DataW.trod] at h
  | succ fuel =>
    simp only [DataW.trod, ht, hce, hct, Nat.mul_one] at h
    split at h
    · rename_i hl
      obtain ⟨xs, hm, hx⟩ := Option.map_eq_some_iff.1 h
      have hxs : xs.map (·.1) = ls.map fun l => (DataW.lit (.string l) : DataW H) := by
        have := congrArg Prod.fst hx
        simpa [strData] using this
      have hxl : xs.length = n := by simpa using mapM_length hm
      have hzl : ls.length = n := by
        have := congrArg List.length hxs
        simp at this
        omega
      apply List.ext_getElem?
      intro i
      by_cases hi : i < n
      · obtain ⟨b, hb, hf⟩ := mapM_at hm i i (by simp [hi])
        obtain ⟨z, hc, rfl, _⟩ := DataW.trod_string he hf
        have h1 : cs[i]? = some (.string z) := by
          have := congrArg (·[0]?) hc
          simpa [List.getElem?_take, List.getElem?_drop] using this
        have h2 : (xs.map (·.1))[i]? = some (DataW.lit (.string z.data.toList) : DataW H) := by simp [hb]
        rw [hxs] at h2
        simp only [List.getElem?_map, Option.map_eq_some_iff, DataW.lit.injEq, Lit.string.injEq] at h2
        obtain ⟨z', hz', rfl⟩ := h2
        rw [h1]
        simp [hz']
      · rw [List.getElem?_eq_none (by omega), List.getElem?_eq_none (by simp; omega)]
    · cases h
theorem marks_data : (Rows.laid_lodestone_lex_marks : DataW Unit) = strData marksL := by kernel_rfl
theorem marks_open {W : World} (h : VarReads Tryd.prog W "lodestone/lex.marks" Rows.laid_lodestone_lex_marks) : Marks W := by
  rw [marks_data] at h
  obtain ⟨g', t', cs, fuel, p, hg', ht', hvar, hd⟩ := h
  have hg : Tryd.prog.globalNamed "lodestone/lex.marks" = some 1 := by kernel_rfl
  have hty : (Tryd.prog.globals[1]?).map (·.type) = some 96 := by kernel_rfl
  obtain rfl := Option.some.inj (hg.symm.trans hg')
  obtain rfl := Option.some.inj (hty.symm.trans ht')
  have hcs := cells_of_strs (n := 18) (e := 9) huMarks Tryd.underlying9 (by kernel_rfl) (by kernel_rfl) hd
  intro j hj
  have := World.var?_cell hg hvar j
  rw [this, ← Array.getElem?_toList, hcs]
  exact marksC_at j hj
theorem iface_cells {H : Type} {enc : TypeId × Value → H} {P : Program} {w : World} {base : Nat} {sp : Nat → Bool} {held : Bool} {fuel : Nat} {t : TypeId} {ms : Array (String × TypeId)} {cs : List Value} {x : DataW H × List MemPlace}
    (hu : P.underlying t = some (.interface ms)) (h : DataW.trod enc P w base sp held fuel t cs = some x) : ∃ ev, cs = [ev] ∧ (ev = .nilIface ∨ ∃ te pe, ev = .iface te pe) := by
  cases fuel with
  | zero => simp [DataW.trod] at h
  | succ n =>
    rw [DataW.trod_step] at h
    unfold DataW.trodStep at h
    simp only [hu] at h
    match cs, h with
    | [], h => simp at h
    | a :: b :: r, h => simp at h
    | [x], h =>
      cases x with
      | nilIface => exact ⟨_, rfl, .inl rfl⟩
      | iface u v => exact ⟨_, rfl, .inr ⟨_, _, rfl⟩⟩
      | _ => simp at h
theorem err_open {W : World} {name : String} {g : Nat} {d : DataW Unit} {ms : Array (String × TypeId)} (hg : Tryd.prog.globalNamed name = some g) (hty : (Tryd.prog.globals[g]?).map (·.type) = some 75) (hu : Tryd.prog.underlying 75 = some (.interface ms))
    (h : VarReads Tryd.prog W name d) : ErrAt W g := by
  obtain ⟨g', t', cs, fuel, p, hg', ht', hvar, hd⟩ := h
  obtain rfl := Option.some.inj (hg.symm.trans hg')
  obtain rfl := Option.some.inj (hty.symm.trans ht')
  have key := iface_cells hu hd
  obtain ⟨ev, h1, h2⟩ := key
  refine ⟨ev, ?_, h2⟩
  rw [World.var?_cell hg hvar 0, ← Array.getElem?_toList, h1]
  rfl

theorem hu6 : Tryd.prog.underlying 87 = some (.array 6 9) := by kernel_rfl
def opsD : List (List UInt8) := [[60], [60, 61], [61], [33, 61], [62, 61], [62]]
def wordsD : List (List UInt8) := [[102, 105, 110, 100], [119, 104, 101, 114, 101], [97, 110, 100], [116, 101, 108, 108], [108, 105, 109, 105, 116], [110, 111, 116, 104, 105, 110, 103]]
theorem ops_data : (Rows.laid_lodestone_query_ops : DataW Unit) = strData opsD := by kernel_rfl
theorem words_data : (Rows.laid_lodestone_query_words : DataW Unit) = strData wordsD := by kernel_rfl
theorem strs6_open {W : World} {name : String} {g : Nat} {ls : List (List UInt8)} (hg : Tryd.prog.globalNamed name = some g) (hty : (Tryd.prog.globals[g]?).map (·.type) = some 87) (h : VarReads Tryd.prog W name (strData ls)) : ∀ j v, ls[j]? = some v → W.cell? ⟨g, j, none⟩ = some (.string ⟨v.toArray⟩) := by
  obtain ⟨g', t', cs, fuel, p, hg', ht', hvar, hd⟩ := h
  obtain rfl := Option.some.inj (hg.symm.trans hg')
  obtain rfl := Option.some.inj (hty.symm.trans ht')
  have hcs := cells_of_strs (n := 6) (e := 9) hu6 Tryd.underlying9 (by kernel_rfl) (by kernel_rfl) hd
  intro j v hj
  have := World.var?_cell hg hvar j
  rw [this, ← Array.getElem?_toList, hcs, List.getElem?_map, hj]
  rfl
theorem ops_open {W : World} (h : VarReads Tryd.prog W "lodestone/query.ops" Rows.laid_lodestone_query_ops) : ∀ j (h : j < opsL.length), W.cell? ⟨0, j, none⟩ = some (.string opsL[j]) := by
  rw [ops_data] at h
  have hh := strs6_open (g := 0) (by kernel_rfl) (by kernel_rfl) h
  intro j hj
  have hj6 : j < 6 := hj
  rcases (by omega : j = 0 ∨ j = 1 ∨ j = 2 ∨ j = 3 ∨ j = 4 ∨ j = 5) with rfl | rfl | rfl | rfl | rfl | rfl <;> exact hh _ _ rfl
theorem words_open {W : World} (h : VarReads Tryd.prog W "lodestone/query.words" Rows.laid_lodestone_query_words) : ∀ j (h : j < kwords.length), W.cell? ⟨2, j, none⟩ = some (.string kwords[j]) := by
  rw [words_data] at h
  have hh := strs6_open (g := 2) (by kernel_rfl) (by kernel_rfl) h
  intro j hj
  have hj6 : j < 6 := hj
  rcases (by omega : j = 0 ∨ j = 1 ∨ j = 2 ∨ j = 3 ∨ j = 4 ∨ j = 5) with rfl | rfl | rfl | rfl | rfl | rfl <;> exact hh _ _ rfl
theorem huErr : Tryd.prog.underlying 75 = some (.interface #[("Error", 149)]) := by kernel_rfl
theorem var_lt {P : Program} {w : World} {n : String} {g : Nat} {d : DataW Unit} (hg : P.globalNamed n = some g) (h : VarReads P w n d) : g < w.heap.size := by
  obtain ⟨g', t', cs, fuel, p, hg', ht', hvar, hd⟩ := h
  rcases Nat.lt_or_ge g w.heap.size with hlt | hge
  · exact hlt
  · simp only [World.var?, hg, Option.bind_some, Array.getElem?_eq_none hge] at hvar
    cases hvar
theorem laid_open {W : World} {laid : List (String × DataW Unit)} (hL : laidMet Tryd.prog laid W) (m1 : ("lodestone/lex.marks", Rows.laid_lodestone_lex_marks) ∈ laid) (m2 : ("strconv.ErrSyntax", Rows.laid_strconv_ErrSyntax) ∈ laid) (m3 : ("strconv.ErrRange", Rows.laid_strconv_ErrRange) ∈ laid) (m4 : ("lodestone/query.ops", Rows.laid_lodestone_query_ops) ∈ laid) (m5 : ("lodestone/query.words", Rows.laid_lodestone_query_words) ∈ laid) (m6 : ("math/bits.deBruijn64tab", Rows.laid_math_bits_deBruijn64tab) ∈ laid) : Laid W := by
  refine ⟨marks_open (Lib.laidMet.reads hL m1), err_open (by kernel_rfl) (by kernel_rfl) huErr (Lib.laidMet.reads hL m2), err_open (by kernel_rfl) (by kernel_rfl) huErr (Lib.laidMet.reads hL m3), ops_open (Lib.laidMet.reads hL m4), words_open (Lib.laidMet.reads hL m5), var_lt (g := 8) (by kernel_rfl) (Lib.laidMet.reads hL m6)⟩

end Go.Proofs.YtahhbgfibelfaaaDoor
