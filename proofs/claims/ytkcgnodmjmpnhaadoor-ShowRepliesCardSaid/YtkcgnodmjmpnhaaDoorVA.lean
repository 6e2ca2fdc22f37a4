import Derived.Test.YtkcgnodmjmpnhaaDoorV9
namespace Go.Proofs.YtkcgnodmjmpnhaaDoor
open Go.RowKit Go.Shelf Go.Lib Go.Sort
set_option linter.unusedVariables false

theorem said_none (a0 a1 : Int) (n2 n3 n4 c2 c3 c4 : Nat) (p2 p3 p4 : Option Addr) (tell : Int) (dn : Bool) (w : World) :
    Calls Tryd.prog 18 #[.agg #[.bool false, .int .i64 a0, .int .u64 a1, .slice p2 n2 c2, .slice p3 n3 c3, .slice p4 n4 c4, .int .i64 tell, .bool dn]] w fun e w' => e = .returned (.string ⟨#[110, 111, 110, 101]⟩) ∧ Below w.heap.size w w' := by
  go_enter Tryd.func18, Tryd.ntmps18
  go_wp2
  go_ret
  exact ⟨rfl, (Below.refl _ _).alloc (Nat.le_refl _) _⟩
/-- What an act comes to. -/
def saidT (T : ByteArray) (tell : Int) (dn : Bool) : ByteArray := if tell = 2 then ⟨#[119, 97, 105, 116, 115]⟩ else if dn then ⟨#[100, 111, 110, 101]⟩ else T
set_option maxHeartbeats 1000000 in
theorem said_show (a0 a1 : Int) (n2 n3 n4 c2 c3 c4 : Nat) (p2 p3 p4 : Option Addr) (tell : Int) (dn : Bool) (T : ByteArray) (w : World)
    (hr : ∀ w', Below w.heap.size w w' → Calls Tryd.prog 17 #[.agg #[.int .i64 a0, .int .u64 a1, .slice p2 n2 c2, .slice p3 n3 c3, .slice p4 n4 c4]] w' fun e w'' => e = .returned (.string T) ∧ Below w'.heap.size w' w'') :
    Calls Tryd.prog 18 #[.agg #[.bool true, .int .i64 a0, .int .u64 a1, .slice p2 n2 c2, .slice p3 n3 c3, .slice p4 n4 c4, .int .i64 tell, .bool dn]] w fun e w' => e = .returned (.string (saidT T tell dn)) ∧ Below w.heap.size w w' := by
  have hb := (Below.refl w.heap.size w).alloc (Nat.le_refl _) (.cells #[.bool true, .int .i64 a0, .int .u64 a1, .slice p2 n2 c2, .slice p3 n3 c3, .slice p4 n4 c4, .int .i64 tell, .bool dn] 54)
  have HR := Lib.hid (hr _ hb)
  have HB := Lib.hid hb
  clear hr hb
  unfold saidT
  by_cases h2 : tell = 2
  · subst h2
    go_enter Tryd.func18, Tryd.ntmps18
    go_wp2
    go_ret
    exact ⟨rfl, HB.out⟩
  · have hb2 : ((tell : Int) == 2) = false := by simpa using h2
    rw [if_neg h2]
    clear h2
    cases dn with
    | true =>
      go_enter Tryd.func18, Tryd.ntmps18
      go_wp2
      go_ret
      exact ⟨rfl, HB.out⟩
    | false =>
      go_enter Tryd.func18, Tryd.ntmps18
      go_wp2_with (go_at_call 17; refine HR.out.mono ?_; rintro e w1 ⟨rfl, hb⟩; have HB1 := Lib.hid (HB.out.trans (hb.mono HB.out.size)); clear hb)
      go_ret
      exact ⟨rfl, HB1.out⟩
end Go.Proofs.YtkcgnodmjmpnhaaDoor
