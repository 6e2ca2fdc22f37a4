import Derived.Test.YtkcgnodmjmpnhaaDoorV4
import Derived.Deep.RegionHeld3
namespace Go.Proofs.YtkcgnodmjmpnhaaDoor
open Go.RowKit Go.Shelf Go.Lib Go.Sort
set_option linter.unusedVariables false

/-- A name and a value. -/
structure Pr where
  p : ByteArray
  v : Vl
def Pr.short (x : Pr) : Prop := x.p.size ≤ 10 ∧ x.v.short
def Pr.txt (x : Pr) : ByteArray := x.p ++ ⟨#[58, 32]⟩ ++ x.v.txt
theorem Pr.txt_size (x : Pr) (h : x.short) : x.txt.size ≤ 4214 := by
  unfold Pr.txt
  rw [ByteArray.size_append, ByteArray.size_append, show (⟨#[58, 32]⟩ : ByteArray).size = 2 from rfl]
  have := x.v.txt_size h.2
  have := h.1
  omega
def LiesP (w : World) (g o : Nat) (xs : List Pr) : Prop := ∀ i (h : i < xs.length),
  w.cell? ⟨g, o + i * 4, none⟩ = some (.string xs[i].p) ∧ w.cell? ⟨g, o + i * 4 + 1, none⟩ = some (.int .i64 xs[i].v.k) ∧ w.cell? ⟨g, o + i * 4 + 2, none⟩ = some (.int .i64 xs[i].v.n) ∧ w.cell? ⟨g, o + i * 4 + 3, none⟩ = some (.string xs[i].v.s)
theorem LiesP.below {B g o : Nat} {w w' : World} {xs : List Pr} (h : LiesP w g o xs) (hb : Below B w w') (hg : g < B) : LiesP w' g o xs := fun i hi => by
  obtain ⟨a, b, c, d⟩ := h i hi
  exact ⟨below_cell hb hg a, below_cell hb hg b, below_cell hb hg c, below_cell hb hg d⟩
def RowP (w : World) (A : Option Addr) (xs : List Pr) : Prop := xs = [] ∨ ∃ g o, A = some ⟨g, o, none⟩ ∧ g < w.heap.size ∧ LiesP w g o xs
theorem RowP.below {w w' : World} {A : Option Addr} {xs : List Pr} (h : RowP w A xs) (hb : Below w.heap.size w w') : RowP w' A xs := by
  rcases h with h | ⟨g, o, e, hg, hl⟩
  · exact .inl h
  · exact .inr ⟨g, o, e, Nat.lt_of_lt_of_le hg hb.size, hl.below hb hg⟩

/-- What stays while a pair is told. -/
theorem pr_step {b : Nat} {p s : ByteArray} {k n : Int} {w w1 w2 : World} (hb : Below w1.heap.size w1 w2)
    (h : w1.cell? ⟨b, 0, none⟩ = some (.string p) ∧ w1.cell? ⟨b, 1, none⟩ = some (.int .i64 k) ∧ w1.cell? ⟨b, 2, none⟩ = some (.int .i64 n) ∧ w1.cell? ⟨b, 3, none⟩ = some (.string s) ∧ b < w1.heap.size ∧ Tab w1 ∧ HasM w1 ∧ Below w.heap.size w w1 ∧ w.heap.size ≤ w1.heap.size) :
    w2.cell? ⟨b, 0, none⟩ = some (.string p) ∧ w2.cell? ⟨b, 1, none⟩ = some (.int .i64 k) ∧ w2.cell? ⟨b, 2, none⟩ = some (.int .i64 n) ∧ w2.cell? ⟨b, 3, none⟩ = some (.string s) ∧ b < w2.heap.size ∧ Tab w2 ∧ HasM w2 ∧ Below w.heap.size w w2 ∧ w.heap.size ≤ w2.heap.size := by
  obtain ⟨h0, h1, h2, h3, hg, hT, hM, hB, hs⟩ := h
  exact ⟨below_cell hb hg h0, below_cell hb hg h1, below_cell hb hg h2, below_cell hb hg h3, Nat.lt_of_lt_of_le hg hb.size, hT.below hb, hM.below hb, hB.trans (hb.mono hs), Nat.le_trans hs hb.size⟩

theorem pr_drew {b : Nat} {p s : ByteArray} {k n : Int} {w w1 : World} (h : w1.cell? ⟨b, 0, none⟩ = some (.string p) ∧ w1.cell? ⟨b, 1, none⟩ = some (.int .i64 k) ∧ w1.cell? ⟨b, 2, none⟩ = some (.int .i64 n) ∧ w1.cell? ⟨b, 3, none⟩ = some (.string s) ∧ b < w1.heap.size ∧ Tab w1 ∧ HasM w1 ∧ Below w.heap.size w w1 ∧ w.heap.size ≤ w1.heap.size) : w1.drew.cell? ⟨b, 0, none⟩ = some (.string p) ∧ w1.drew.cell? ⟨b, 1, none⟩ = some (.int .i64 k) ∧ w1.drew.cell? ⟨b, 2, none⟩ = some (.int .i64 n) ∧ w1.drew.cell? ⟨b, 3, none⟩ = some (.string s) ∧ b < w1.drew.heap.size ∧ Tab w1.drew ∧ HasM w1.drew ∧ Below w.heap.size w w1.drew ∧ w.heap.size ≤ w1.drew.heap.size := by
  obtain ⟨h0, h1, h2, h3, hg, hT, hM, hB, hs⟩ := h
  exact ⟨h0, h1, h2, h3, hg, hT, hM, below_drew hB, hs⟩
theorem pr_alloc {b : Nat} {p s : ByteArray} {k n : Int} {w w1 : World} {o : Obj} (h : w1.cell? ⟨b, 0, none⟩ = some (.string p) ∧ w1.cell? ⟨b, 1, none⟩ = some (.int .i64 k) ∧ w1.cell? ⟨b, 2, none⟩ = some (.int .i64 n) ∧ w1.cell? ⟨b, 3, none⟩ = some (.string s) ∧ b < w1.heap.size ∧ Tab w1 ∧ HasM w1 ∧ Below w.heap.size w w1 ∧ w.heap.size ≤ w1.heap.size) : (w1.alloc o).cell? ⟨b, 0, none⟩ = some (.string p) ∧ (w1.alloc o).cell? ⟨b, 1, none⟩ = some (.int .i64 k) ∧ (w1.alloc o).cell? ⟨b, 2, none⟩ = some (.int .i64 n) ∧ (w1.alloc o).cell? ⟨b, 3, none⟩ = some (.string s) ∧ b < (w1.alloc o).heap.size ∧ Tab (w1.alloc o) ∧ HasM (w1.alloc o) ∧ Below w.heap.size w (w1.alloc o) ∧ w.heap.size ≤ (w1.alloc o).heap.size :=
  pr_step ((Below.refl w1.heap.size w1).alloc (Nat.le_refl _) o) h
theorem pr_grown {b : Nat} {p s : ByteArray} {k n : Int} {w w1 w2 : World} {row : Option Nat} (hg : w1.grownBy w2 row) (hr : ∀ g, row = some g → w.heap.size ≤ g ∧ g ≠ b) (hT0 : Tab w) (hM0 : HasM w) (h : w1.cell? ⟨b, 0, none⟩ = some (.string p) ∧ w1.cell? ⟨b, 1, none⟩ = some (.int .i64 k) ∧ w1.cell? ⟨b, 2, none⟩ = some (.int .i64 n) ∧ w1.cell? ⟨b, 3, none⟩ = some (.string s) ∧ b < w1.heap.size ∧ Tab w1 ∧ HasM w1 ∧ Below w.heap.size w w1 ∧ w.heap.size ≤ w1.heap.size) : w2.cell? ⟨b, 0, none⟩ = some (.string p) ∧ w2.cell? ⟨b, 1, none⟩ = some (.int .i64 k) ∧ w2.cell? ⟨b, 2, none⟩ = some (.int .i64 n) ∧ w2.cell? ⟨b, 3, none⟩ = some (.string s) ∧ b < w2.heap.size ∧ Tab w2 ∧ HasM w2 ∧ Below w.heap.size w w2 ∧ w.heap.size ≤ w2.heap.size := by
  obtain ⟨h0, h1, h2, h3, hb, hT, hM, hB, hs⟩ := h
  have hB2 : Below w.heap.size w w2 := hB.grown hg hs (fun k hk => (hr k hk).1)
  have hblk : w2.heap[b]? = w1.heap[b]? := hg.block b hb (fun e => (hr b e.symm).2 rfl)
  have hc : ∀ i, w2.cell? ⟨b, i, none⟩ = w1.cell? ⟨b, i, none⟩ := fun i => World.cell?_of_block (w := w1) hblk
  exact ⟨(hc 0).trans h0, (hc 1).trans h1, (hc 2).trans h2, (hc 3).trans h3, Nat.lt_of_lt_of_le hb hg.size, hT0.below hB2, hM0.below hB2, hB2, hB2.size⟩
theorem pr_tab {b : Nat} {p s : ByteArray} {k n : Int} {w w1 : World} (h : w1.cell? ⟨b, 0, none⟩ = some (.string p) ∧ w1.cell? ⟨b, 1, none⟩ = some (.int .i64 k) ∧ w1.cell? ⟨b, 2, none⟩ = some (.int .i64 n) ∧ w1.cell? ⟨b, 3, none⟩ = some (.string s) ∧ b < w1.heap.size ∧ Tab w1 ∧ HasM w1 ∧ Below w.heap.size w w1 ∧ w.heap.size ≤ w1.heap.size) : Tab w1 := h.2.2.2.2.2.1
theorem pr_hasm {b : Nat} {p s : ByteArray} {k n : Int} {w w1 : World} (h : w1.cell? ⟨b, 0, none⟩ = some (.string p) ∧ w1.cell? ⟨b, 1, none⟩ = some (.int .i64 k) ∧ w1.cell? ⟨b, 2, none⟩ = some (.int .i64 n) ∧ w1.cell? ⟨b, 3, none⟩ = some (.string s) ∧ b < w1.heap.size ∧ Tab w1 ∧ HasM w1 ∧ Below w.heap.size w w1 ∧ w.heap.size ≤ w1.heap.size) : HasM w1 := h.2.2.2.2.2.2.1
theorem pr_size {b : Nat} {p s : ByteArray} {k n : Int} {w w1 : World} (h : w1.cell? ⟨b, 0, none⟩ = some (.string p) ∧ w1.cell? ⟨b, 1, none⟩ = some (.int .i64 k) ∧ w1.cell? ⟨b, 2, none⟩ = some (.int .i64 n) ∧ w1.cell? ⟨b, 3, none⟩ = some (.string s) ∧ b < w1.heap.size ∧ Tab w1 ∧ HasM w1 ∧ Below w.heap.size w w1 ∧ w.heap.size ≤ w1.heap.size) : w.heap.size ≤ w1.heap.size := h.2.2.2.2.2.2.2.2

def propsT (xs : List Pr) : ByteArray := if xs = [] then ⟨#[]⟩ else (⟨#[32, 123]⟩ : ByteArray) ++ joinOf (xs.map Pr.txt) ⟨#[44, 32]⟩ ++ ⟨#[125]⟩
set_option maxHeartbeats 1000000 in
set_option maxRecDepth 10000 in
theorem props_show (A : Option Addr) (n c : Nat) (ps : List Pr) (hv : ∀ x ∈ ps, x.short) (hn : ps.length = n) (hN : n ≤ 1000) (w : World) (ht : Tab w) (hmm : HasM w) (hA : RowP w A ps) :
    Calls Tryd.prog 34 #[.slice A n c] w fun e w' => e = .returned (.string (propsT ps)) ∧ Below w.heap.size w w' := by
  obtain ⟨i0, hi0, hz0, hz1, hz2⟩ := info_parts info9
  by_cases hn0 : n = 0
  · have e : ps = [] := List.eq_nil_of_length_eq_zero (by omega)
    subst hn0
    have HI : Hid (propsT ps = ⟨#[]⟩) := by show _ = _; rw [e]; rfl
    clear hA hv hn ht hmm e
    go_enter Tryd.func34, Tryd.ntmps34
    go_wp2
    go_ret
    exact ⟨by rw [HI.out]; rfl, Below.refl _ _⟩
  have HA := Lib.hid hA
  have HT := Lib.hid ht
  have HMM := Lib.hid hmm
  have HX := Lib.hid hv
  have HNL := Lib.hid hn
  have hnb : ((n : Int) == 0) = false := by simpa using hn0
  clear hA ht hv hn hmm
  go_enter Tryd.func34, Tryd.ntmps34
  go_wp2_with fail
  go_loopg [3, 11] n (fun q v i wr => ∃ (j : Nat), q + j = n ∧ i = .int .i64 (j : Int) ∧ Mid wr w.heap.size 9 1 v j ((ps.take j).map fun x : Pr => Value.string x.txt) ∧ Below w.heap.size w wr)
  case atStart => exact ⟨0, rfl, rfl, Mid.nil _ _ _ _, Below.refl _ _⟩
  case round =>
    obtain ⟨j, hj, rfl, hm, hb⟩ := hrel
    have HM := Lib.hid hm
    have HBW := Lib.hid hb
    have hsz := hb.size
    clear hm hb
    by_cases hlt : j < n
    · have hjx : j < ps.length := by rw [HNL.out]; exact hlt
      rcases HA.out.below HBW.out with h0 | ⟨g, o, rfl, hg, hl⟩
      · exact absurd hjx (by rw [h0]; simp)
      obtain ⟨c0, c1, c2, c3⟩ := hl j hjx
      have HS := Lib.hid (map_take (fun x : Pr => Value.string x.txt) ps j hjx)
      have hsh := HX.out _ (List.getElem_mem hjx)
      have hbb := (Below.refl wr.heap.size wr).alloc (Nat.le_refl _) (.cells #[.string ps[j].p, .int .i64 ps[j].v.k, .int .i64 ps[j].v.n, .string ps[j].v.s] 59)
      have HID := Lib.hid (value_show ps[j].v hsh.2)
      have hzp := hsh.1
      have hzv := ps[j].v.txt_size hsh.2
      have HTX : Hid (ps[j].txt = ps[j].p ++ ⟨#[58, 32]⟩ ++ ps[j].v.txt) := rfl
      have HTB := Lib.hid ((HT.out.below HBW.out).below hbb)
      have HMB := Lib.hid ((HMM.out.below HBW.out).below hbb)
      clear hl hsh hbb
      generalize ps[j] = x at *
      generalize x.txt = TX at *
      obtain ⟨xp, xk, xn, xs⟩ := x
      simp only at c0 c1 c2 c3 HID HTX HTB HMB hzp hzv
      generalize (Vl.mk xk xn xs).txt = S at *
      unfold Vl.val at HID
      simp only at HID
      go_wp2_with fail
      have hbb := HBW.out.alloc hsz (.cells #[.string xp, .int .i64 xk, .int .i64 xn, .string xs] 59)
      have HSS : (wr.alloc (.cells #[.string xp, .int .i64 xk, .int .i64 xn, .string xs] 59)).cell? ⟨wr.heap.size, 0, none⟩ = some (.string xp) ∧ (wr.alloc (.cells #[.string xp, .int .i64 xk, .int .i64 xn, .string xs] 59)).cell? ⟨wr.heap.size, 1, none⟩ = some (.int .i64 xk) ∧ (wr.alloc (.cells #[.string xp, .int .i64 xk, .int .i64 xn, .string xs] 59)).cell? ⟨wr.heap.size, 2, none⟩ = some (.int .i64 xn) ∧ (wr.alloc (.cells #[.string xp, .int .i64 xk, .int .i64 xn, .string xs] 59)).cell? ⟨wr.heap.size, 3, none⟩ = some (.string xs) ∧ wr.heap.size < (wr.alloc (.cells #[.string xp, .int .i64 xk, .int .i64 xn, .string xs] 59)).heap.size ∧ Tab (wr.alloc (.cells #[.string xp, .int .i64 xk, .int .i64 xn, .string xs] 59)) ∧ HasM (wr.alloc (.cells #[.string xp, .int .i64 xk, .int .i64 xn, .string xs] 59)) ∧ Below w.heap.size w (wr.alloc (.cells #[.string xp, .int .i64 xk, .int .i64 xn, .string xs] 59)) ∧ w.heap.size ≤ (wr.alloc (.cells #[.string xp, .int .i64 xk, .int .i64 xn, .string xs] 59)).heap.size := ⟨by simp [go_sem], by simp [go_sem], by simp [go_sem], by simp [go_sem], by simp, HTB.out, HMB.out, hbb, hbb.size⟩
      have HOB : Hid (∀ g, u3.ownBlock = some g → w.heap.size ≤ g ∧ g ≠ wr.heap.size) := fun g hg => by
        obtain ⟨h1, cur, hc⟩ := HM.out.block g hg
        exact ⟨h1, Nat.ne_of_lt hc.lt⟩
      have HM0 := Lib.hid (HM.out.alloc (.cells #[.string xp, .int .i64 xk, .int .i64 xn, .string xs] 59))
      clear hbb c0 c1 c2 c3
      generalize (wr.alloc (.cells #[.string xp, .int .i64 xk, .int .i64 xn, .string xs] 59)) = w0 at *
      have q0 : (9223372036854775807 < xp.size + 2) = False := by simp only [eq_iff_iff, iff_false]; omega
      have q1 : (9223372036854775807 < xp.size + 2 + S.size) = False := by simp only [eq_iff_iff, iff_false]; omega
      go_region_held3 (fun w' => w'.cell? ⟨wr.heap.size, 0, none⟩ = some (.string xp) ∧ w'.cell? ⟨wr.heap.size, 1, none⟩ = some (.int .i64 xk) ∧ w'.cell? ⟨wr.heap.size, 2, none⟩ = some (.int .i64 xn) ∧ w'.cell? ⟨wr.heap.size, 3, none⟩ = some (.string xs) ∧ wr.heap.size < w'.heap.size ∧ Tab w' ∧ HasM w' ∧ Below w.heap.size w w' ∧ w.heap.size ≤ w'.heap.size) (first | assumption | (apply pr_drew; assumption) | (apply pr_step; assumption; assumption) | (apply pr_alloc; assumption) | (apply pr_grown; assumption; exact HOB.out; exact HT.out; exact HMM.out; assumption))
        (first
          | (go_at_call 35; refine (HID.out _ (pr_tab (by assumption)) (pr_hasm (by assumption))).mono ?_; rintro e w1 ⟨rfl, hb⟩)
          | (refine wp_append_mid _ (.tmp 15) (.tmp 23) 40 rfl w.heap.size 9 i0 _ 1 16 Tryd.underlying40 hi0 hz0 hz1 hz2 rfl (by decide) _ _ _ rfl ((HM0.out.drew.only (Only.of_below hb []) (by simp)).alloc _) (some ⟨w1.heap.size, 0, none⟩) 1 1 [.string (xp ++ ⟨#[58, 32]⟩ ++ S)] rfl rfl (row_one _ _ _) (by simp [Value.oneCell']) (by simp only [maxLen]; omega) (by omega) (pr_size (by assumption)) ?_; intro v1 w2 hm1 hg1 ho1))
      rename_i hK
      have HBK := Lib.hid hK.2.2.2.2.2.2.2.1
      have HM1 := Lib.hid hm1
      clear hK hm1 hg1 ho1 hb HSS
      go_wp2_with fail
      go_roundg (gk - 1)
      case measure => omega
      case rel => exact ⟨j + 1, by omega, by go_num, by rw [HS.out, HTX.out]; exact HM1.out, HBK.out⟩
    · obtain rfl : j = n := by omega
      have hm2 := HM.out
      rw [List.take_of_length_le (by rw [HNL.out]; exact Nat.le_refl _)] at hm2
      have hl2 : (ps.map Pr.txt).length = j := by rw [List.length_map, HNL.out]
      have hsz3 := joinOf_size (ps.map Pr.txt) ⟨#[44, 32]⟩ 4214 (fun y hy => by
        obtain ⟨x, hx, rfl⟩ := List.mem_map.1 hy
        exact x.txt_size (HX.out x hx))
      rw [hl2, show (⟨#[44, 32]⟩ : ByteArray).size = 2 from rfl] at hsz3
      have hm3 := hm2
      have e3 : (ps.map fun x : Pr => Value.string x.txt) = (ps.map Pr.txt).map Value.string := by rw [List.map_map]; rfl
      rw [e3, ← hl2] at hm3
      have HJ := Lib.hid (join_mid ⟨#[44, 32]⟩ hm3 (by rw [hl2]; omega) (by omega))
      have hne : ps ≠ [] := fun e => by rw [e] at hl2; simp at hl2; omega
      have HI : Hid (propsT ps = (⟨#[32, 123]⟩ : ByteArray) ++ joinOf (ps.map Pr.txt) ⟨#[44, 32]⟩ ++ ⟨#[125]⟩) := by show _ = _; unfold propsT; rw [if_neg hne]
      generalize joinOf (ps.map Pr.txt) ⟨#[44, 32]⟩ = T at *
      have hT : T.size ≤ 10000000 := by omega
      clear hm2 hm3 hl2 hsz3 e3 hne
      go_wp2_with (go_at_call 26; refine HJ.out.mono ?_; rintro e w1 ⟨rfl, hb1⟩; have HB1 := Lib.hid hb1; clear hb1)
      go_ret
      exact ⟨by rw [HI.out]; rfl, HBW.out.trans (HB1.out.mono hsz)⟩
end Go.Proofs.YtkcgnodmjmpnhaaDoor
