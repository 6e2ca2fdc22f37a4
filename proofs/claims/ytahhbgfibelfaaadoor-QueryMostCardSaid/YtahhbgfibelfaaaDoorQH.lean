import Derived.Test.YtahhbgfibelfaaaDoorQG
import Derived.Shelf.SlicesE.DeleteFunc
import Derived.Shelf.SlicesQ.IndexFunc
namespace Go.Proofs.YtahhbgfibelfaaaDoor
open Go.RowKit Go.Lib
set_option linter.unusedVariables false

attribute [local go_sem] wfld0 wfld1 wfld2 wfld3
theorem eg24 (args : Array Value) (w : World) : (callFunc 23 args).run Tryd.prog w = .ok (.enter 23 args) w := by kernel_rfl
theorem eg30 (args : Array Value) (w : World) : (callFunc 29 args).run Tryd.prog w = .ok (.enter 29 args) w := by kernel_rfl
theorem isE_ok (l : List UInt8) (w : World) : FnGives Tryd.prog 23 #[] #[encStr l] (.bool (decide (l = []))) w := by
  unfold FnGives
  have e : (ByteArray.toList ⟨l.toArray⟩ == []) = decide (l = []) := by
    rw [ByteArray.toList_eq]
    cases l with
    | nil => rfl
    | cons a r => simp
  generalize decide (l = []) = r at *
  show Calls Tryd.prog 23 #[.string ⟨l.toArray⟩] w _
  generalize (⟨l.toArray⟩ : ByteArray) = s at *
  go_enter Tryd.func23, Tryd.ntmps23
  go_wp2_with fail
  go_ret
  exact ⟨by first | exact congrArg (fun b => Ending.returned (Value.bool b)) e | (rw [← e]; simp), 0, rfl⟩
def layDel_ren : Go.Shelf.Ren := ⟨fun | 6 => 39 | 10 => 21 | n => n, fun | 22 => 65 | 23 => 9 | 25 => 63 | n => n, fun | n => n⟩
theorem layDel : Go.Proofs.SlLaysH.n10 Tryd.prog layDel_ren := {
  mixed := by kernel_rfl
  f6 := ⟨Tryd.f39.name, by decide, Tryd.func39.trans (congrArg some (by kernel_rfl))⟩
  f10 := ⟨Tryd.f21.name, by decide, Tryd.func21.trans (congrArg some (by kernel_rfl))⟩
  t0 := Tryd.underlying0
  a0 := Tryd.isAgg0
  z0 := Tryd.sizeOf0
  v0 := Tryd.zeroValue0
  t3 := Tryd.underlying3
  a3 := Tryd.isAgg3
  z3 := Tryd.sizeOf3
  v3 := Tryd.zeroValue3
  t4 := Tryd.underlying4
  a4 := Tryd.isAgg4
  z4 := Tryd.sizeOf4
  v4 := Tryd.zeroValue4
  t22 := Tryd.underlying65
  a22 := Tryd.isAgg65
  z22 := Tryd.sizeOf65
  v22 := Tryd.zeroValue65
  a23 := Tryd.isAgg9
  z23 := Tryd.sizeOf9
  t25 := Tryd.underlying63
  a25 := Tryd.isAgg63
  z25 := Tryd.sizeOf63
  v25 := Tryd.zeroValue63 }
def layHas_ren : Go.Shelf.Ren := ⟨fun | 6 => 42 | 8 => 28 | n => n, fun | 22 => 25 | 23 => 44 | 25 => 72 | n => n, fun | n => n⟩
theorem layHas : Go.Proofs.SlLaysH0.n8 Tryd.prog layHas_ren := {
  mixed := by kernel_rfl
  f6 := ⟨Tryd.f42.name, by decide, Tryd.func42.trans (congrArg some (by kernel_rfl))⟩
  f8 := ⟨Tryd.f28.name, by decide, Tryd.func28.trans (congrArg some (by kernel_rfl))⟩
  t0 := Tryd.underlying0
  a0 := Tryd.isAgg0
  z0 := Tryd.sizeOf0
  v0 := Tryd.zeroValue0
  t3 := Tryd.underlying3
  a3 := Tryd.isAgg3
  z3 := Tryd.sizeOf3
  v3 := Tryd.zeroValue3
  t4 := Tryd.underlying4
  a4 := Tryd.isAgg4
  z4 := Tryd.sizeOf4
  v4 := Tryd.zeroValue4
  t22 := Tryd.underlying25
  a22 := Tryd.isAgg25
  z22 := Tryd.sizeOf25
  v22 := Tryd.zeroValue25
  t25 := Tryd.underlying72
  a25 := Tryd.isAgg72
  z25 := Tryd.sizeOf72
  v25 := Tryd.zeroValue72 }
def fullL (l : List (List UInt8)) : List (List UInt8) := l.filter fun x => !(decide (x = []))
theorem one_str : OneCell encStr := fun _ => rfl
theorem del_mid {w : World} {B : Nat} {v : Value} {l : List (List UInt8)} (h : Mid w B 9 1 v l.length (sv l)) (hl : l.length ≤ 17592186044415) (hpos : 0 < l.length) :
    Calls Tryd.prog 21 #[v, .func (.func 23) #[] #[]] w fun e w' => ∃ v', e = .returned v' ∧ Mid w' B 9 1 v' (fullL l).length (sv (fullL l)) ∧ v'.ownBlock = v.ownBlock ∧ ∃ S, Only w w' S ∧ ∀ x ∈ S, v.ownBlock = some x := by
  rcases h.2 with ⟨rfl, h0⟩ | ⟨g, off, cap, cur, rfl, hb, hh, hnc, hcm, hcs, ht⟩
  · omega
  · rw [Nat.mul_one] at ht hcs
    have hfil : (fullL l).length ≤ l.length := List.length_filter_le _ _
    refine (AnyE.slices_DeleteFunc layDel encStr one_str (fun x => decide (x = [])) 23 #[] eg24 [] Tryd.zeroValue9 g off cap l.toArray w (fun W x _ => isE_ok x W) (fun n os dk x _ => isE_ok x _) (holds_of_blk hh rfl ht) (by simp; omega) (by simpa using hnc)).mono ?_
    rintro e w' ⟨rfl, q, rfl⟩
    have e1 : (l.toArray.toList.filter fun x => !(decide (x = []))) = fullL l := rfl
    have es : l.toArray.size = l.length := by simp
    rw [e1, es]
    have hsz : (fullL l ++ List.replicate (l.length - (fullL l).length) []).length = l.length := by simp; omega
    refine ⟨_, rfl, ⟨by simp [sv], .inr ⟨g, off, cap, _, rfl, hb, putRow_blk _ q hh, by omega, hcm, by rw [put_size]; omega, ?_⟩⟩, rfl, [g], putRow_only w g off q _, by simp [Value.ownBlock]⟩
    rw [Nat.mul_one]
    have h2 := put_take cur (fullL l ++ List.replicate (l.length - (fullL l).length) []).toArray off (fullL l).length (by simp only [List.size_toArray, hsz]; omega) (by simp only [List.size_toArray, hsz]; omega)
    rw [h2]
    congr 1
    simp
def bas (l : List (List UInt8)) : List ByteArray := l.map fun x => ⟨x.toArray⟩
theorem bas_get (l : List (List UInt8)) (j : Nat) (hj : j < l.length) : (bas l).getD j ByteArray.empty = ⟨l[j].toArray⟩ := by simp [bas, List.getD, hj]
theorem sv_cells {w : World} {B : Nat} {g off cap n : Nat} {l : List (List UInt8)} (h : Mid w B 9 1 (.slice (some ⟨g, off, none⟩) n cap) n (sv l)) : ∀ j, j < (bas l).length → w.cell? ⟨g, off + j, none⟩ = some (.string ((bas l).getD j ByteArray.empty)) := fun j hj => by
  have hj' : j < l.length := by simpa [bas] using hj
  obtain ⟨A, k, hv, _, _, hr⟩ := h.form
  injection hv with e1 _ _
  subst e1
  obtain ⟨ad, e, hc⟩ := hr.at_ (k := j) (u := encStr l[j]) (by simp [sv, hj'])
  injection e with e
  subst e
  rw [add_at] at hc
  rw [bas_get l j hj']
  exact hc
theorem clone_mid {w : World} {B : Nat} {v : Value} {l : List (List UInt8)} (h : Mid w B 9 1 v l.length (sv l)) (hl : l.length ≤ 1000000000) :
    Calls Tryd.prog 26 #[v] w fun e w' => ∃ v', e = .returned v' ∧ Mid w' w.heap.size 9 1 v' l.length (sv l) ∧ Below w.heap.size w w' := by
  rcases h.2 with ⟨rfl, h0⟩ | ⟨g, off, cap, cur, rfl, hb, hh, hnc, hcm, hcs, ht⟩
  · have : l = [] := List.eq_nil_of_length_eq_zero h0
    subst this
    refine (Tryd.slices_Clone_string_nil 0 0 w).mono ?_
    rintro e w' ⟨rfl, rfl⟩
    exact ⟨_, rfl, Mid.nil _ _ _ _, Below.refl _ _⟩
  · rcases Nat.eq_zero_or_pos l.length with h0 | h0
    · have : l = [] := List.eq_nil_of_length_eq_zero h0
      subst this
      refine (Tryd.slices_Clone_string_zero ⟨g, off, none⟩ cap w).mono ?_
      rintro e w' ⟨v', rfl, ho, _, hb⟩
      exact ⟨v', rfl, Mid.of_own ho, hb⟩
    · have hc := sv_cells h
      refine (Tryd.slices_Clone_string g off l.length cap (bas l) w (by simp [bas]) (by omega) hc).mono ?_
      rintro e w' ⟨v', rfl, ho, _, hb⟩
      refine ⟨v', rfl, ?_, hb⟩
      have e1 : ((bas l).take l.length).map Value.string = sv l := by
        rw [List.take_of_length_le (by simp [bas])]
        simp [bas, sv]
      rw [e1] at ho
      exact Mid.of_own ho
theorem memB_bas (l : List (List UInt8)) (x : ByteArray) : memB (bas l) x = decide (x.data.toList ∈ l) := by
  have h := memB_iff (bas l) x
  have h2 : x ∈ bas l ↔ x.data.toList ∈ l := by
    unfold bas
    rw [List.mem_map]
    constructor
    · rintro ⟨a, ha, rfl⟩; simpa using ha
    · intro ha; exact ⟨_, ha, by simp⟩
  cases hm : memB (bas l) x with
  | true => exact (decide_eq_true (h2.1 (h.1 hm))).symm
  | false => exact (decide_eq_false (fun hx => by rw [h.2 (h2.2 hx)] at hm; cases hm)).symm
theorem has_mid {w : World} {B : Nat} {v : Value} {l : List (List UInt8)} (h : Mid w B 9 1 v l.length (sv l)) (hl : l.length ≤ 1000000000) (x : ByteArray) :
    Calls Tryd.prog 27 #[v, .string x] w fun e w' => e = .returned (.bool (decide (x.data.toList ∈ l))) ∧ w' = w := by
  have hemp : ∀ A c, l = [] → Calls Tryd.prog 27 #[.slice A 0 c, .string x] w fun e w' => e = .returned (.bool (decide (x.data.toList ∈ l))) ∧ w' = w := fun A c e => by
    subst e
    refine (Tryd.slices_Contains_string_empty A c x w).mono ?_
    rintro e w' ⟨rfl, rfl⟩
    exact ⟨by simp, rfl⟩
  rcases h.2 with ⟨rfl, h0⟩ | ⟨g, off, cap, cur, rfl, hb, hh, hnc, hcm, hcs, ht⟩
  · exact hemp _ _ (List.eq_nil_of_length_eq_zero h0)
  · rcases Nat.eq_zero_or_pos l.length with h0 | h0
    · have := hemp (some ⟨g, off, none⟩) cap (List.eq_nil_of_length_eq_zero h0)
      rw [h0]
      exact this
    · refine (Tryd.slices_Contains_string g off l.length cap (bas l) x w (by simp [bas]) (by omega) (sv_cells h)).mono ?_
      rintro e w' ⟨rfl, rfl⟩
      rw [List.take_of_length_le (by simp [bas]), containsS_eq, memB_bas]
      exact ⟨rfl, rfl⟩
instance : Inhabited It := ⟨⟨⟨#[]⟩, ⟨#[]⟩⟩⟩
/-- The closure that asks for a name that is not among some. -/
theorem isNo_ok (b3 : Nat) (v : Value) {B : Nat} (l : List (List UInt8)) (x : It) (w : World) (h : Mid w B 9 1 v l.length (sv l)) (hl : l.length ≤ 1000000000) (hb : Blk w b3 65 #[v]) :
    Calls Tryd.prog 29 #[.agg (itC x).toArray, .pointer (some ⟨b3, 0, none⟩)] w fun e w' => e = .returned (.bool (!(decide (x.v.data.toList ∈ l)))) ∧ Below w.heap.size w w' := by
  have HH := Lib.hid (fun ob => has_mid (h.alloc ob) hl x.v)
  have c0 := hb.cell 0
  have hlt := hb.lt
  obtain ⟨A, k, hv, _, _, _⟩ := h.form
  clear h hb
  subst hv
  obtain ⟨xv, xk⟩ := x
  unfold itC
  generalize decide (xv.data.toList ∈ l) = r at *
  go_enter Tryd.func29, Tryd.ntmps29
  go_wp2_with fail
  refine (HH.out _).mono ?_
  rintro e w' ⟨rfl, rfl⟩
  go_wp2_with fail
  go_ret
  exact ⟨rfl, (Below.refl _ _).alloc (Nat.le_refl _) _⟩

end Go.Proofs.YtahhbgfibelfaaaDoor
