import Derived.Test.YtngcflhhkkpepaaRows
import Derived.WalkKit
import Derived.Deep.Draws
import Derived.Laws.OwnMore
import Derived.Lib.Hide
import Derived.BigQuiet
namespace Go.Proofs.Ytngcflhhkkpepaa
open Go.RowKit

def Blk (w : World) (g : Nat) (t : TypeId) (cs : Array Value) : Prop := w.heap[g]? = some (.cells cs t (0, 0))

section
variable {w w' : World} {g : Nat} {t : TypeId} {cs : Array Value}
theorem Blk.lt (h : Blk w g t cs) : g < w.heap.size := by
  rcases Nat.lt_or_ge g w.heap.size with hlt | hge
  · exact hlt
  · unfold Blk at h; rw [Array.getElem?_eq_none hge] at h; cases h
theorem Blk.cell (h : Blk w g t cs) (i : Nat) : w.cell? ⟨g, i, none⟩ = cs[i]? := cell_of_row w g i cs t (0, 0) h
theorem Blk.frozen (h : Blk w g t cs) (i : Nat) : w.frozen? ⟨g, i, none⟩ = false := by
  unfold Blk at h
  simp [World.frozen?, h]
theorem Blk.new (w : World) (t : TypeId) (cs : Array Value) : Blk (w.alloc (.cells cs t)) w.heap.size t cs := heap_alloc_new w _
theorem Blk.drew (h : Blk w g t cs) : Blk w.drew g t cs := h
theorem Blk.drewN (h : Blk w g t cs) (n : Nat) : Blk (w.drewN n) g t cs := h
theorem Blk.alloc (h : Blk w g t cs) (o : Obj) : Blk (w.alloc o) g t cs := (Below.heap_alloc w o g h.lt).trans h
theorem Blk.set_ (h : Blk w g t cs) (i : Nat) (u : Value) : Blk (w.setCell ⟨g, i, none⟩ u) g t (cs.setIfInBounds i u) := by
  unfold Blk at h ⊢
  simp [World.setCell, Array.getElem?_modify, h]
theorem Blk.far (h : Blk w g t cs) {p : Addr} (hp : g ≠ p.block) (u : Value) : Blk (w.setCell p u) g t cs := (Below.heap_setCell w p u g hp).trans h
theorem Blk.below {B : Nat} (h : Blk w g t cs) (hb : Below B w w') (hg : g < B) : Blk w' g t cs := (hb.block g hg).trans h
theorem Blk.grown {row : Option Nat} (h : Blk w g t cs) (hb : w.grownBy w' row) (hg : some g ≠ row) : Blk w' g t cs := (hb.block g h.lt hg).trans h
end

set_option maxHeartbeats 400000 in
theorem has_nil (n : Int) (w : World) : Calls Try.prog 13 #[.pointer none, .int .i64 n] w fun e w' => e = .returned (.bool false) ∧ w = w' := by
  go_enter Try.func13, Try.ntmps13
  go_wp2
  go_ret
  exact ⟨rfl, rfl⟩

set_option maxHeartbeats 400000 in
theorem has_any (p b len cap : Nat) (f m n : Int) (w : World) (hp : Blk w p 34 #[.slice (some ⟨b, 0, none⟩) len cap, .int .i64 f, .int .i64 m]) :
    Calls Try.prog 13 #[.pointer (some ⟨p, 0, none⟩), .int .i64 n] w fun e w' => e = .returned (.bool (decide (f ≤ n) && decide (n < (len : Int)))) ∧ w = w' := by
  have h0 : w.cell? ⟨p, 0, none⟩ = some (.slice (some ⟨b, 0, none⟩) len cap) := hp.cell 0
  have h1 : w.cell? ⟨p, 1, none⟩ = some (.int .i64 f) := hp.cell 1
  clear hp
  by_cases a : f ≤ n
  · go_enter Try.func13, Try.ntmps13
    go_wp2
    go_ret
    refine ⟨?_, rfl⟩
    simp [a]
  · go_enter Try.func13, Try.ntmps13
    go_wp2
    go_ret
    refine ⟨?_, rfl⟩
    have e : decide (f ≤ n) = false := by simpa using a
    rw [e]
    rfl

structure Only (w w' : World) (S : List Nat) : Prop where
  os : w'.os = w.os
  tape : w'.tape = w.tape
  output : w'.output = w.output
  size : w.heap.size ≤ w'.heap.size
  block : ∀ k, k < w.heap.size → k ∉ S → w'.heap[k]? = w.heap[k]?

section
variable {a b c w w' : World} {S S' : List Nat}
theorem Only.refl (w : World) (S : List Nat) : Only w w S := ⟨rfl, rfl, rfl, Nat.le_refl _, fun _ _ _ => rfl⟩
theorem Only.trans (h : Only a b S) (k : Only b c S) : Only a c S :=
  ⟨k.os.trans h.os, k.tape.trans h.tape, k.output.trans h.output, Nat.le_trans h.size k.size, fun i hi hs => (k.block i (Nat.lt_of_lt_of_le hi h.size) hs).trans (h.block i hi hs)⟩
theorem Only.mono (h : Only a b S) (hs : ∀ x ∈ S, x ∈ S') : Only a b S' := ⟨h.os, h.tape, h.output, h.size, fun k hk hn => h.block k hk fun hm => hn (hs k hm)⟩
theorem Only.drew (h : Only a w S) : Only a w.drew S := ⟨h.os, h.tape, h.output, h.size, h.block⟩
theorem Only.drewN (h : Only a w S) (n : Nat) : Only a (w.drewN n) S := ⟨h.os, h.tape, h.output, h.size, h.block⟩
theorem Only.alloc (h : Only a w S) (o : Obj) : Only a (w.alloc o) S :=
  h.trans ⟨rfl, rfl, rfl, by simp, fun k hk _ => Below.heap_alloc _ _ _ hk⟩
theorem Only.setCell (h : Only a w S) {p : Addr} (hp : p.block ∈ S) (u : Value) : Only a (w.setCell p u) S :=
  h.trans ⟨rfl, rfl, rfl, by simp [World.setCell], fun k _ hn => Below.heap_setCell _ _ _ _ (fun e => hn (e ▸ hp))⟩
theorem Only.blk {g : Nat} {t : TypeId} {cs : Array Value} (h : Only w w' S) (hb : Blk w g t cs) (hg : g ∉ S) : Blk w' g t cs := (h.block g hb.lt hg).trans hb
theorem Only.below (h : Only w w' S) {B : Nat} (hB : B ≤ w.heap.size) (hs : ∀ x ∈ S, B ≤ x) : Below B w w' :=
  ⟨h.os, h.tape, h.output, h.size, fun k hk => h.block k (by omega) fun hm => by have := hs k hm; omega⟩
end

def bv (bs : List Bool) : Array Value := (bs.map Value.bool).toArray
theorem bv_get (bs : List Bool) (k : Nat) (h : k < bs.length) : (bv bs)[k]? = some (.bool (bs.getD k false)) := by
  simp [bv, h]
theorem bv_set (bs : List Bool) (k : Nat) (x : Bool) : (bv bs).setIfInBounds k (.bool x) = bv (bs.set k x) := by
  simp [bv, List.map_set]

/-- A space at p, its places at b. -/
structure Sp (w : World) (p b : Nat) (bs : List Bool) (f m : Int) : Prop where
  head : Blk w p 34 #[.slice (some ⟨b, 0, none⟩) bs.length bs.length, .int .i64 f, .int .i64 m]
  row : Blk w b 4 (bv bs)
  ne : p ≠ b

theorem Sp.only {w w' : World} {p b : Nat} {bs : List Bool} {f m : Int} {S : List Nat} (h : Sp w p b bs f m) (ho : Only w w' S) (hp : p ∉ S) (hb : b ∉ S) : Sp w' p b bs f m :=
  ⟨ho.blk h.head hp, ho.blk h.row hb, h.ne⟩

theorem has_sp {p b : Nat} {bs : List Bool} {f m n : Int} {w : World} (h : Sp w p b bs f m) :
    Calls Try.prog 13 #[.pointer (some ⟨p, 0, none⟩), .int .i64 n] w fun e w' => e = .returned (.bool (decide (f ≤ n) && decide (n < (bs.length : Int)))) ∧ w = w' :=
  has_any p b _ _ f m n w h.head

set_option maxHeartbeats 400000 in
theorem use_no {p b : Nat} {bs : List Bool} {f m n : Int} {w : World} (h : Sp w p b bs f m) (hn : ¬ (f ≤ n ∧ n < (bs.length : Int))) :
    Calls Try.prog 7 #[.pointer (some ⟨p, 0, none⟩), .int .i64 n] w fun e w' => e = .returned (.bool false) ∧ w = w' := by
  have hb : (decide (f ≤ n) && decide (n < (bs.length : Int))) = false := by simpa using hn
  have hc := has_sp (n := n) h
  rw [hb] at hc
  have HC := Lib.hid hc
  clear hc hb h hn
  go_enter Try.func7, Try.ntmps7
  go_wp2_with (go_at_call 13; refine HC.out.mono ?_; rintro e w' ⟨rfl, rfl⟩)
  go_ret
  exact ⟨rfl, rfl⟩

set_option maxHeartbeats 400000 in
theorem use_taken {p b : Nat} {bs : List Bool} {f m : Int} {w : World} (n : Nat) (h : Sp w p b bs f m) (hf : f ≤ n) (hn : n < bs.length) (ht : bs.getD n false = true) :
    Calls Try.prog 7 #[.pointer (some ⟨p, 0, none⟩), .int .i64 n] w fun e w' => e = .returned (.bool false) ∧ w = w' := by
  have hb : (decide (f ≤ (n : Int)) && decide ((n : Int) < (bs.length : Int))) = true := by simp; omega
  have hc := has_sp (n := n) h
  rw [hb] at hc
  have HC := Lib.hid hc
  have h0 : w.cell? ⟨p, 0, none⟩ = some (.slice (some ⟨b, 0, none⟩) bs.length bs.length) := h.head.cell 0
  have h1 : w.cell? ⟨b, n, none⟩ = some (.bool true) := by rw [← ht, ← bv_get bs n hn]; exact h.row.cell n
  clear hc hb h ht
  go_enter Try.func7, Try.ntmps7
  go_wp2_with (go_at_call 13; refine HC.out.mono ?_; rintro e w' ⟨rfl, rfl⟩)
  go_ret
  exact ⟨rfl, rfl⟩

set_option maxHeartbeats 400000 in
theorem use_yes {p b : Nat} {bs : List Bool} {f m : Int} {w : World} (n : Nat) (h : Sp w p b bs f m) (hf : f ≤ n) (hn : n < bs.length) (ht : bs.getD n false = false)
    (hm0 : 0 ≤ m) (hm : m < 1000000) :
    Calls Try.prog 7 #[.pointer (some ⟨p, 0, none⟩), .int .i64 n] w fun e w' => e = .returned (.bool true) ∧ Sp w' p b (bs.set n true) f (m + 1) ∧ Only w w' [p, b] := by
  have hb : (decide (f ≤ (n : Int)) && decide ((n : Int) < (bs.length : Int))) = true := by simp; omega
  have hc := has_sp (n := n) h
  rw [hb] at hc
  have HC := Lib.hid hc
  have h0 : w.cell? ⟨p, 0, none⟩ = some (.slice (some ⟨b, 0, none⟩) bs.length bs.length) := h.head.cell 0
  have h2 : w.cell? ⟨p, 2, none⟩ = some (.int .i64 m) := h.head.cell 2
  have h1 : w.cell? ⟨b, n, none⟩ = some (.bool false) := by rw [← ht, ← bv_get bs n hn]; exact h.row.cell n
  have f1 := h.row.frozen n
  have f2 := h.head.frozen 2
  have hne := h.ne
  have hs : Hid (Sp ((w.setCell ⟨b, n, none⟩ (.bool true)).setCell ⟨p, 2, none⟩ (.int .i64 (m + 1))) p b (bs.set n true) f (m + 1)) := by
    refine ⟨?_, ?_, hne⟩
    · have := (h.head.far (p := ⟨b, n, none⟩) hne (.bool true)).set_ 2 (.int .i64 (m + 1))
      simpa using this
    · have := (h.row.set_ n (.bool true)).far (p := ⟨p, 2, none⟩) (Ne.symm hne) (.int .i64 (m + 1))
      rw [bv_set] at this
      simpa using this
  clear hc hb h ht
  go_enter Try.func7, Try.ntmps7
  go_wp2_with (go_at_call 13; refine HC.out.mono ?_; rintro e w' ⟨rfl, rfl⟩)
  go_ret
  exact ⟨rfl, hs.out, ((Only.refl _ _).setCell (by simp) _).setCell (by simp) _⟩

end Go.Proofs.Ytngcflhhkkpepaa
