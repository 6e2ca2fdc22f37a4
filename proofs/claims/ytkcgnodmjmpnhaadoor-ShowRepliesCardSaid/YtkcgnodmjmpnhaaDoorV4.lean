import Derived.Test.YtkcgnodmjmpnhaaDoorV3
namespace Go.Proofs.YtkcgnodmjmpnhaaDoor
open Go.RowKit Go.Shelf Go.Lib Go.Sort
set_option linter.unusedVariables false

theorem Vl.txt_size (v : Vl) (hv : v.short) : v.txt.size ≤ 4202 := by
  obtain ⟨h1, h2, h3⟩ := hv
  unfold Vl.txt
  have hn := num_size v.n h2.1 h2.2
  have hq := quoB_le v.s
  split
  · split
    · exact (by decide : (5 : Nat) ≤ 4202)
    · exact (by decide : (4 : Nat) ≤ 4202)
  · split
    · omega
    · split
      · omega
      · exact (by decide : (7 : Nat) ≤ 4202)
/-- Values that lie in a row. -/
def LiesV (w : World) (g o : Nat) (vs : List Vl) : Prop := ∀ i (h : i < vs.length),
  w.cell? ⟨g, o + i * 3, none⟩ = some (.int .i64 vs[i].k) ∧ w.cell? ⟨g, o + i * 3 + 1, none⟩ = some (.int .i64 vs[i].n) ∧ w.cell? ⟨g, o + i * 3 + 2, none⟩ = some (.string vs[i].s)
theorem LiesV.below {B g o : Nat} {w w' : World} {vs : List Vl} (h : LiesV w g o vs) (hb : Below B w w') (hg : g < B) : LiesV w' g o vs := fun i hi => by
  obtain ⟨a, b, c⟩ := h i hi
  exact ⟨below_cell hb hg a, below_cell hb hg b, below_cell hb hg c⟩
def RowV (w : World) (A : Option Addr) (vs : List Vl) : Prop := vs = [] ∨ ∃ g o, A = some ⟨g, o, none⟩ ∧ g < w.heap.size ∧ LiesV w g o vs
theorem RowV.below {w w' : World} {A : Option Addr} {vs : List Vl} (h : RowV w A vs) (hb : Below w.heap.size w w') : RowV w' A vs := by
  rcases h with h | ⟨g, o, e, hg, hl⟩
  · exact .inl h
  · exact .inr ⟨g, o, e, Nat.lt_of_lt_of_le hg hb.size, hl.below hb hg⟩

/-- A row of values. -/
def rowT (vs : List Vl) : ByteArray := (⟨#[40]⟩ : ByteArray) ++ joinOf (vs.map Vl.txt) ⟨#[44, 32]⟩ ++ ⟨#[41]⟩
set_option maxHeartbeats 1000000 in
theorem row_show (A : Option Addr) (n c : Nat) (vs : List Vl) (hv : ∀ v ∈ vs, v.short) (hn : vs.length = n) (hN : n ≤ 1000) (w : World) (ht : Tab w) (hmm : HasM w) (hA : RowV w A vs) :
    Calls Tryd.prog 25 #[.slice A n c] w fun e w' => e = .returned (.string (rowT vs)) ∧ Below w.heap.size w w' := by
  obtain ⟨i0, hi0, hz0, hz1, hz2⟩ := info_parts info9
  have HA := Lib.hid hA
  have HT := Lib.hid ht
  have HMM := Lib.hid hmm
  have HX := Lib.hid hv
  have HNL := Lib.hid hn
  clear hA ht hv hn hmm
  go_enter Tryd.func25, Tryd.ntmps25
  go_wp2_with fail
  go_loopg [3, 8] n (fun q v i wr => ∃ (j : Nat), q + j = n ∧ i = .int .i64 (j : Int) ∧ Mid wr w.heap.size 9 1 v j ((vs.take j).map fun x : Vl => Value.string x.txt) ∧ Below w.heap.size w wr)
  case atStart => exact ⟨0, rfl, rfl, Mid.nil _ _ _ _, Below.refl _ _⟩
  case round =>
    obtain ⟨j, hj, rfl, hm, hb⟩ := hrel
    have HM := Lib.hid hm
    have HBW := Lib.hid hb
    have hsz := hb.size
    clear hm hb
    by_cases hlt : j < n
    · have hjx : j < vs.length := by rw [HNL.out]; exact hlt
      rcases HA.out.below HBW.out with h0 | ⟨g, o, rfl, hg, hl⟩
      · exact absurd hjx (by rw [h0]; simp)
      obtain ⟨c0, c1, c2⟩ := hl j hjx
      have HS := Lib.hid (map_take (fun x : Vl => Value.string x.txt) vs j hjx)
      have hsh := HX.out _ (List.getElem_mem hjx)
      have hbb := (Below.refl wr.heap.size wr).alloc (Nat.le_refl _) (.cells #[.int .i64 vs[j].k, .int .i64 vs[j].n, .string vs[j].s] 48)
      have HID := Lib.hid (value_show vs[j] hsh _ ((HT.out.below HBW.out).below hbb) ((HMM.out.below HBW.out).below hbb))
      clear hl hsh hbb
      generalize vs[j] = x at *
      obtain ⟨xk, xn, xs⟩ := x
      generalize (Vl.mk xk xn xs).txt = S at *
      unfold Vl.val at HID
      simp only at c0 c1 c2 HID
      go_wp2_with (first
        | (go_at_call 35; refine HID.out.mono ?_; rintro e w1 ⟨rfl, hb1⟩; have HB1 := Lib.hid (((Below.refl wr.heap.size wr).alloc (Nat.le_refl _) _).trans (hb1.mono (by simp))); have hsz1 := HB1.out.size; clear hb1)
        | (at_builtin; refine wpList_append_mid _ rfl (.tmp 12) (.tmp 15) 40 rfl w.heap.size 9 i0 _ 1 16 Tryd.underlying40 hi0 hz0 hz1 hz2 rfl (by decide) _ _ _ rfl ((HM.out.only (Only.of_below HB1.out []) (by simp)).alloc _) (some ⟨w1.heap.size, 0, none⟩) 1 1 [.string S] rfl rfl (row_one _ _ _) (by simp [Value.oneCell']) (by simp only [maxLen]; omega) (by omega) (by simp; omega) ?_; intro v1 w2 hm1 hg1 ho1; have HM1 := Lib.hid hm1; have HG1 := Lib.hid hg1; clear hm1 hg1 ho1))
      go_roundg (gk - 1)
      case measure => omega
      case rel => exact ⟨j + 1, by omega, by go_num, by rw [HS.out]; exact HM1.out, ((HBW.out.trans (HB1.out.mono hsz)).alloc (by omega) _).grown HG1.out (by simp; omega) (fun j hj => (HM.out.block j hj).1)⟩
    · obtain rfl : j = n := by omega
      have hm2 := HM.out
      rw [List.take_of_length_le (by rw [HNL.out]; exact Nat.le_refl _)] at hm2
      have hl2 : (vs.map Vl.txt).length = j := by rw [List.length_map, HNL.out]
      have hsz3 := joinOf_size (vs.map Vl.txt) ⟨#[44, 32]⟩ 4202 (fun y hy => by
        obtain ⟨x, hx, rfl⟩ := List.mem_map.1 hy
        exact x.txt_size (HX.out x hx))
      rw [hl2, show (⟨#[44, 32]⟩ : ByteArray).size = 2 from rfl] at hsz3
      have hm3 := hm2
      have e3 : (vs.map fun x : Vl => Value.string x.txt) = (vs.map Vl.txt).map Value.string := by rw [List.map_map]; rfl
      rw [e3, ← hl2] at hm3
      have HJ := Lib.hid (join_mid ⟨#[44, 32]⟩ hm3 (by rw [hl2]; omega) (by omega))
      have HI : Hid (rowT vs = (⟨#[40]⟩ : ByteArray) ++ joinOf (vs.map Vl.txt) ⟨#[44, 32]⟩ ++ ⟨#[41]⟩) := rfl
      generalize joinOf (vs.map Vl.txt) ⟨#[44, 32]⟩ = T at *
      have hT : T.size ≤ 10000000 := by omega
      clear hm2 hm3 hl2 hsz3 e3
      go_wp2_with (go_at_call 26; refine HJ.out.mono ?_; rintro e w1 ⟨rfl, hb1⟩; have HB1 := Lib.hid hb1; clear hb1)
      go_ret
      exact ⟨by rw [HI.out]; rfl, HBW.out.trans (HB1.out.mono hsz)⟩
end Go.Proofs.YtkcgnodmjmpnhaaDoor
