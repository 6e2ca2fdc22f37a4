import Derived.Test.YtkcgnodmjmpnhaaDoorV5
namespace Go.Proofs.YtkcgnodmjmpnhaaDoor
open Go.RowKit Go.Shelf Go.Lib Go.Sort
set_option linter.unusedVariables false

theorem propsT_size (ps : List Pr) (h : ∀ x ∈ ps, x.short) (hN : ps.length ≤ 1000) : (propsT ps).size ≤ 10000000 := by
  unfold propsT
  split
  · exact Nat.zero_le _
  · have hsz3 := joinOf_size (ps.map Pr.txt) ⟨#[44, 32]⟩ 4214 (fun y hy => by
      obtain ⟨x, hx, rfl⟩ := List.mem_map.1 hy
      exact x.txt_size (h x hx))
    rw [List.length_map, show (⟨#[44, 32]⟩ : ByteArray).size = 2 from rfl] at hsz3
    rw [ByteArray.size_append, ByteArray.size_append, show (⟨#[32, 123]⟩ : ByteArray).size = 2 from rfl, show (⟨#[125]⟩ : ByteArray).size = 1 from rfl]
    omega
theorem ed_step {b : Nat} {a0 a4 a5 : Int} {a3 : ByteArray} {a6 : Value} {PA : Option Addr} {ps : List Pr} {w w1 w2 : World} (hb : Below w1.heap.size w1 w2)
    (h : w1.cell? ⟨b, 0, none⟩ = some (.int .u64 a0) ∧ w1.cell? ⟨b, 3, none⟩ = some (.string a3) ∧ w1.cell? ⟨b, 4, none⟩ = some (.int .u64 a4) ∧ w1.cell? ⟨b, 5, none⟩ = some (.int .u64 a5) ∧ w1.cell? ⟨b, 6, none⟩ = some a6 ∧ b < w1.heap.size ∧ Tab w1 ∧ HasM w1 ∧ RowP w1 PA ps ∧ Below w.heap.size w w1 ∧ w.heap.size ≤ w1.heap.size) : w2.cell? ⟨b, 0, none⟩ = some (.int .u64 a0) ∧ w2.cell? ⟨b, 3, none⟩ = some (.string a3) ∧ w2.cell? ⟨b, 4, none⟩ = some (.int .u64 a4) ∧ w2.cell? ⟨b, 5, none⟩ = some (.int .u64 a5) ∧ w2.cell? ⟨b, 6, none⟩ = some a6 ∧ b < w2.heap.size ∧ Tab w2 ∧ HasM w2 ∧ RowP w2 PA ps ∧ Below w.heap.size w w2 ∧ w.heap.size ≤ w2.heap.size := by
  obtain ⟨h0, h3, h4, h5, h6, hg, hT, hM, hP, hB, hs⟩ := h
  exact ⟨below_cell hb hg h0, below_cell hb hg h3, below_cell hb hg h4, below_cell hb hg h5, below_cell hb hg h6, Nat.lt_of_lt_of_le hg hb.size, hT.below hb, hM.below hb, hP.below hb, hB.trans (hb.mono hs), Nat.le_trans hs hb.size⟩
theorem ed_drew {b : Nat} {a0 a4 a5 : Int} {a3 : ByteArray} {a6 : Value} {PA : Option Addr} {ps : List Pr} {w w1 : World} (h : w1.cell? ⟨b, 0, none⟩ = some (.int .u64 a0) ∧ w1.cell? ⟨b, 3, none⟩ = some (.string a3) ∧ w1.cell? ⟨b, 4, none⟩ = some (.int .u64 a4) ∧ w1.cell? ⟨b, 5, none⟩ = some (.int .u64 a5) ∧ w1.cell? ⟨b, 6, none⟩ = some a6 ∧ b < w1.heap.size ∧ Tab w1 ∧ HasM w1 ∧ RowP w1 PA ps ∧ Below w.heap.size w w1 ∧ w.heap.size ≤ w1.heap.size) : w1.drew.cell? ⟨b, 0, none⟩ = some (.int .u64 a0) ∧ w1.drew.cell? ⟨b, 3, none⟩ = some (.string a3) ∧ w1.drew.cell? ⟨b, 4, none⟩ = some (.int .u64 a4) ∧ w1.drew.cell? ⟨b, 5, none⟩ = some (.int .u64 a5) ∧ w1.drew.cell? ⟨b, 6, none⟩ = some a6 ∧ b < w1.drew.heap.size ∧ Tab w1.drew ∧ HasM w1.drew ∧ RowP w1.drew PA ps ∧ Below w.heap.size w w1.drew ∧ w.heap.size ≤ w1.drew.heap.size := by
  obtain ⟨h0, h3, h4, h5, h6, hg, hT, hM, hP, hB, hs⟩ := h
  exact ⟨h0, h3, h4, h5, h6, hg, hT, hM, hP, below_drew hB, hs⟩
theorem ed_tab {b : Nat} {a0 a4 a5 : Int} {a3 : ByteArray} {a6 : Value} {PA : Option Addr} {ps : List Pr} {w w1 : World} (h : w1.cell? ⟨b, 0, none⟩ = some (.int .u64 a0) ∧ w1.cell? ⟨b, 3, none⟩ = some (.string a3) ∧ w1.cell? ⟨b, 4, none⟩ = some (.int .u64 a4) ∧ w1.cell? ⟨b, 5, none⟩ = some (.int .u64 a5) ∧ w1.cell? ⟨b, 6, none⟩ = some a6 ∧ b < w1.heap.size ∧ Tab w1 ∧ HasM w1 ∧ RowP w1 PA ps ∧ Below w.heap.size w w1 ∧ w.heap.size ≤ w1.heap.size) : Tab w1 := h.2.2.2.2.2.2.1
theorem ed_hasm {b : Nat} {a0 a4 a5 : Int} {a3 : ByteArray} {a6 : Value} {PA : Option Addr} {ps : List Pr} {w w1 : World} (h : w1.cell? ⟨b, 0, none⟩ = some (.int .u64 a0) ∧ w1.cell? ⟨b, 3, none⟩ = some (.string a3) ∧ w1.cell? ⟨b, 4, none⟩ = some (.int .u64 a4) ∧ w1.cell? ⟨b, 5, none⟩ = some (.int .u64 a5) ∧ w1.cell? ⟨b, 6, none⟩ = some a6 ∧ b < w1.heap.size ∧ Tab w1 ∧ HasM w1 ∧ RowP w1 PA ps ∧ Below w.heap.size w w1 ∧ w.heap.size ≤ w1.heap.size) : HasM w1 := h.2.2.2.2.2.2.2.1
theorem ed_rowp {b : Nat} {a0 a4 a5 : Int} {a3 : ByteArray} {a6 : Value} {PA : Option Addr} {ps : List Pr} {w w1 : World} (h : w1.cell? ⟨b, 0, none⟩ = some (.int .u64 a0) ∧ w1.cell? ⟨b, 3, none⟩ = some (.string a3) ∧ w1.cell? ⟨b, 4, none⟩ = some (.int .u64 a4) ∧ w1.cell? ⟨b, 5, none⟩ = some (.int .u64 a5) ∧ w1.cell? ⟨b, 6, none⟩ = some a6 ∧ b < w1.heap.size ∧ Tab w1 ∧ HasM w1 ∧ RowP w1 PA ps ∧ Below w.heap.size w w1 ∧ w.heap.size ≤ w1.heap.size) : RowP w1 PA ps := h.2.2.2.2.2.2.2.2.1

/-- An edge's text. -/
def edgeT (id fr tw : Nat) (ty : ByteArray) (ps : List Pr) : ByteArray :=
  (⟨#[101, 100, 103, 101, 32]⟩ : ByteArray) ++ num (id : Int) ++ ⟨#[32]⟩ ++ num (fr : Int) ++ ⟨#[45]⟩ ++ ty ++ ⟨#[45, 62]⟩ ++ num (tw : Int) ++ propsT ps
set_option maxHeartbeats 1000000 in
set_option maxRecDepth 10000 in
theorem edge_show (id fr tw : Nat) (hid : id < 18446744073709551616) (hfr : fr < 18446744073709551616) (hto : tw < 18446744073709551616) (ty : ByteArray) (hty : ty.size ≤ 10) (LA PA : Option Addr) (n lc m pc : Nat) (ps : List Pr) (hv : ∀ x ∈ ps, x.short) (hn : ps.length = m) (hN : m ≤ 1000) (w : World) (ht : Tab w) (hmm : HasM w) (hA : RowP w PA ps) :
    Calls Tryd.prog 24 #[.agg #[.int .u64 (id : Int), .bool true, .slice LA n lc, .string ty, .int .u64 (fr : Int), .int .u64 (tw : Int), .slice PA m pc]] w fun e w' => e = .returned (.string (edgeT id fr tw ty ps)) ∧ Below w.heap.size w w' := by
  have z1 := num_size_u id hid
  have z2 := num_size_u fr hfr
  have z3 := num_size_u tw hto
  have z4 := propsT_size ps hv (by omega)
  have HI1 := Lib.hid (id_ok id hid)
  have HI2 := Lib.hid (id_ok fr hfr)
  have HI3 := Lib.hid (id_ok tw hto)
  have HPS := Lib.hid (fun w ht hm hA => props_show PA m pc ps hv hn hN w ht hm hA)
  have HE : Hid (edgeT id fr tw ty ps = (⟨#[101, 100, 103, 101, 32]⟩ : ByteArray) ++ num (id : Int) ++ ⟨#[32]⟩ ++ num (fr : Int) ++ ⟨#[45]⟩ ++ ty ++ ⟨#[45, 62]⟩ ++ num (tw : Int) ++ propsT ps) := rfl
  have hbb := (Below.refl w.heap.size w).alloc (Nat.le_refl _) (.cells #[.int .u64 (id : Int), .bool true, .slice LA n lc, .string ty, .int .u64 (fr : Int), .int .u64 (tw : Int), .slice PA m pc] 43)
  have HTB := Lib.hid (ht.below hbb)
  have HMB := Lib.hid (hmm.below hbb)
  have HPB := Lib.hid (hA.below hbb)
  generalize edgeT id fr tw ty ps = ET at *
  generalize num (id : Int) = sid at *
  generalize num (fr : Int) = sfr at *
  generalize num (tw : Int) = sto at *
  generalize propsT ps = sp at *
  clear hid hfr hto hv hn ht hmm hA
  go_enter Tryd.func24, Tryd.ntmps24
  go_wp2_with fail
  have HSS : (w.alloc (.cells #[.int .u64 (id : Int), .bool true, .slice LA n lc, .string ty, .int .u64 (fr : Int), .int .u64 (tw : Int), .slice PA m pc] 43)).cell? ⟨w.heap.size, 0, none⟩ = some (.int .u64 (id : Int)) ∧ (w.alloc (.cells #[.int .u64 (id : Int), .bool true, .slice LA n lc, .string ty, .int .u64 (fr : Int), .int .u64 (tw : Int), .slice PA m pc] 43)).cell? ⟨w.heap.size, 3, none⟩ = some (.string ty) ∧ (w.alloc (.cells #[.int .u64 (id : Int), .bool true, .slice LA n lc, .string ty, .int .u64 (fr : Int), .int .u64 (tw : Int), .slice PA m pc] 43)).cell? ⟨w.heap.size, 4, none⟩ = some (.int .u64 (fr : Int)) ∧ (w.alloc (.cells #[.int .u64 (id : Int), .bool true, .slice LA n lc, .string ty, .int .u64 (fr : Int), .int .u64 (tw : Int), .slice PA m pc] 43)).cell? ⟨w.heap.size, 5, none⟩ = some (.int .u64 (tw : Int)) ∧ (w.alloc (.cells #[.int .u64 (id : Int), .bool true, .slice LA n lc, .string ty, .int .u64 (fr : Int), .int .u64 (tw : Int), .slice PA m pc] 43)).cell? ⟨w.heap.size, 6, none⟩ = some (.slice PA m pc) ∧ w.heap.size < (w.alloc (.cells #[.int .u64 (id : Int), .bool true, .slice LA n lc, .string ty, .int .u64 (fr : Int), .int .u64 (tw : Int), .slice PA m pc] 43)).heap.size ∧ Tab (w.alloc (.cells #[.int .u64 (id : Int), .bool true, .slice LA n lc, .string ty, .int .u64 (fr : Int), .int .u64 (tw : Int), .slice PA m pc] 43)) ∧ HasM (w.alloc (.cells #[.int .u64 (id : Int), .bool true, .slice LA n lc, .string ty, .int .u64 (fr : Int), .int .u64 (tw : Int), .slice PA m pc] 43)) ∧ RowP (w.alloc (.cells #[.int .u64 (id : Int), .bool true, .slice LA n lc, .string ty, .int .u64 (fr : Int), .int .u64 (tw : Int), .slice PA m pc] 43)) PA ps ∧ Below w.heap.size w (w.alloc (.cells #[.int .u64 (id : Int), .bool true, .slice LA n lc, .string ty, .int .u64 (fr : Int), .int .u64 (tw : Int), .slice PA m pc] 43)) ∧ w.heap.size ≤ (w.alloc (.cells #[.int .u64 (id : Int), .bool true, .slice LA n lc, .string ty, .int .u64 (fr : Int), .int .u64 (tw : Int), .slice PA m pc] 43)).heap.size := ⟨by simp [go_sem], by simp [go_sem], by simp [go_sem], by simp [go_sem], by simp [go_sem], by simp, HTB.out, HMB.out, HPB.out, hbb, hbb.size⟩
  clear hbb HTB HMB HPB
  generalize (w.alloc (.cells #[.int .u64 (id : Int), .bool true, .slice LA n lc, .string ty, .int .u64 (fr : Int), .int .u64 (tw : Int), .slice PA m pc] 43)) = w0 at *
  have q0 : (9223372036854775807 < 5 + sid.size) = False := by simp only [eq_iff_iff, iff_false]; omega
  have q1 : (9223372036854775807 < 5 + sid.size + 1) = False := by simp only [eq_iff_iff, iff_false]; omega
  have q2 : (9223372036854775807 < 5 + sid.size + 1 + sfr.size) = False := by simp only [eq_iff_iff, iff_false]; omega
  have q3 : (9223372036854775807 < 5 + sid.size + 1 + sfr.size + 1) = False := by simp only [eq_iff_iff, iff_false]; omega
  have q4 : (9223372036854775807 < 5 + sid.size + 1 + sfr.size + 1 + ty.size) = False := by simp only [eq_iff_iff, iff_false]; omega
  have q5 : (9223372036854775807 < 5 + sid.size + 1 + sfr.size + 1 + ty.size + 2) = False := by simp only [eq_iff_iff, iff_false]; omega
  have q6 : (9223372036854775807 < 5 + sid.size + 1 + sfr.size + 1 + ty.size + 2 + sto.size) = False := by simp only [eq_iff_iff, iff_false]; omega
  have q7 : (9223372036854775807 < 5 + sid.size + 1 + sfr.size + 1 + ty.size + 2 + sto.size + sp.size) = False := by simp only [eq_iff_iff, iff_false]; omega
  go_region_held3 (fun w' => w'.cell? ⟨w.heap.size, 0, none⟩ = some (.int .u64 (id : Int)) ∧ w'.cell? ⟨w.heap.size, 3, none⟩ = some (.string ty) ∧ w'.cell? ⟨w.heap.size, 4, none⟩ = some (.int .u64 (fr : Int)) ∧ w'.cell? ⟨w.heap.size, 5, none⟩ = some (.int .u64 (tw : Int)) ∧ w'.cell? ⟨w.heap.size, 6, none⟩ = some (.slice PA m pc) ∧ w.heap.size < w'.heap.size ∧ Tab w' ∧ HasM w' ∧ RowP w' PA ps ∧ Below w.heap.size w w' ∧ w.heap.size ≤ w'.heap.size) (first | assumption | (apply ed_drew; assumption) | (apply ed_step; assumption; assumption))
    (first
      | (go_at_call 22; (first | (refine (HI1.out _ (ed_tab (by assumption))).mono ?_) | (refine (HI2.out _ (ed_tab (by assumption))).mono ?_) | (refine (HI3.out _ (ed_tab (by assumption))).mono ?_)); rintro x w' ⟨rfl, hb⟩)
      | (go_at_call 34; refine (HPS.out _ (ed_tab (by assumption)) (ed_hasm (by assumption)) (ed_rowp (by assumption))).mono ?_; rintro x w' ⟨rfl, hb⟩))
  rename_i hK
  have HBK := Lib.hid hK.2.2.2.2.2.2.2.2.2.1
  clear hK HSS
  go_wp2_with fail
  go_ret
  exact ⟨by rw [HE.out]; rfl, HBK.out⟩
end Go.Proofs.YtkcgnodmjmpnhaaDoor
