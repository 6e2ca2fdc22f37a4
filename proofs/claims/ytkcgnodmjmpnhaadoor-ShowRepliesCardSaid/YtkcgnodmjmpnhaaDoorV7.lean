import Derived.Test.YtkcgnodmjmpnhaaDoorV6
namespace Go.Proofs.YtkcgnodmjmpnhaaDoor
open Go.RowKit Go.Shelf Go.Lib Go.Sort
set_option linter.unusedVariables false

/-- Strings that lie in a row. -/
def RowS (w : World) (A : Option Addr) (xs : List ByteArray) : Prop := xs = [] ∨ ∃ g o, A = some ⟨g, o, none⟩ ∧ g < w.heap.size ∧ ∀ i (h : i < xs.length), w.cell? ⟨g, o + i, none⟩ = some (.string xs[i])
theorem RowS.below {w w' : World} {A : Option Addr} {xs : List ByteArray} (h : RowS w A xs) (hb : Below w.heap.size w w') : RowS w' A xs := by
  rcases h with h | ⟨g, o, e, hg, hl⟩
  · exact .inl h
  · exact .inr ⟨g, o, e, Nat.lt_of_lt_of_le hg hb.size, fun i hi => below_cell hb hg (hl i hi)⟩
/-- Labels, one behind the other. -/
def labT (s : ByteArray) (ls : List ByteArray) : ByteArray := ls.foldl (fun s l => s ++ ((⟨#[58]⟩ : ByteArray) ++ l)) s
theorem labT_snoc (s : ByteArray) (ls : List ByteArray) (j : Nat) (h : j < ls.length) : labT s (ls.take (j + 1)) = labT s (ls.take j) ++ ((⟨#[58]⟩ : ByteArray) ++ ls[j]) := by
  unfold labT
  rw [List.take_succ_eq_append_getElem h, List.foldl_append]
  rfl
theorem labT_size (M : Nat) : ∀ (ls : List ByteArray) (s : ByteArray), (∀ l ∈ ls, l.size ≤ M) → (labT s ls).size ≤ s.size + ls.length * (M + 1)
  | [], s, _ => by show s.size ≤ _; simp
  | l :: r, s, h => by
    show (labT (s ++ ((⟨#[58]⟩ : ByteArray) ++ l)) r).size ≤ _
    have ih := labT_size M r (s ++ ((⟨#[58]⟩ : ByteArray) ++ l)) (fun x hx => h x (List.mem_cons_of_mem _ hx))
    have := h l (by simp)
    rw [ByteArray.size_append, ByteArray.size_append, show (⟨#[58]⟩ : ByteArray).size = 1 from rfl] at ih
    simp only [List.length_cons, Nat.add_mul] at ih ⊢
    omega
/-- A node's text. -/
def nodeT (id : Nat) (ls : List ByteArray) (ps : List Pr) : ByteArray := labT ((⟨#[110, 111, 100, 101, 32]⟩ : ByteArray) ++ num (id : Int)) ls ++ propsT ps

set_option maxHeartbeats 1000000 in
set_option maxRecDepth 10000 in
theorem node_show (id fr tw : Nat) (hid : id < 18446744073709551616) (ty : ByteArray) (LA PA : Option Addr) (n lc m pc : Nat) (ls : List ByteArray) (ps : List Pr) (hls : ∀ l ∈ ls, l.size ≤ 10) (hln : ls.length = n) (hLN : n ≤ 1000) (hv : ∀ x ∈ ps, x.short) (hn : ps.length = m) (hN : m ≤ 1000) (w : World) (ht : Tab w) (hmm : HasM w) (hA : RowP w PA ps) (hS : RowS w LA ls) :
    Calls Tryd.prog 24 #[.agg #[.int .u64 (id : Int), .bool false, .slice LA n lc, .string ty, .int .u64 (fr : Int), .int .u64 (tw : Int), .slice PA m pc]] w fun e w' => e = .returned (.string (nodeT id ls ps)) ∧ Below w.heap.size w w' := by
  have z1 := num_size_u id hid
  have z4 := propsT_size ps hv (by omega)
  have HI1 := Lib.hid (id_ok id hid)
  have HPS := Lib.hid (fun w ht hm hA => props_show PA m pc ps hv hn hN w ht hm hA)
  have HE : Hid (nodeT id ls ps = labT ((⟨#[110, 111, 100, 101, 32]⟩ : ByteArray) ++ num (id : Int)) ls ++ propsT ps) := rfl
  have hbb := (Below.refl w.heap.size w).alloc (Nat.le_refl _) (.cells #[.int .u64 (id : Int), .bool false, .slice LA n lc, .string ty, .int .u64 (fr : Int), .int .u64 (tw : Int), .slice PA m pc] 43)
  have HTB := Lib.hid (ht.below hbb)
  have HMB := Lib.hid (hmm.below hbb)
  have HPB := Lib.hid (hA.below hbb)
  have HSB := Lib.hid (hS.below hbb)
  have HLS := Lib.hid hls
  have HLN := Lib.hid hln
  have HBB := Lib.hid hbb
  generalize nodeT id ls ps = ET at *
  generalize num (id : Int) = sid at *
  generalize propsT ps = sp at *
  clear hid hv hn ht hmm hA hS hls hln
  go_enter Tryd.func24, Tryd.ntmps24
  go_wp2_with fail
  have c2 : (w.alloc (.cells #[.int .u64 (id : Int), .bool false, .slice LA n lc, .string ty, .int .u64 (fr : Int), .int .u64 (tw : Int), .slice PA m pc] 43)).cell? ⟨w.heap.size, 2, none⟩ = some (.slice LA n lc) := by simp [go_sem]
  have c6 : (w.alloc (.cells #[.int .u64 (id : Int), .bool false, .slice LA n lc, .string ty, .int .u64 (fr : Int), .int .u64 (tw : Int), .slice PA m pc] 43)).cell? ⟨w.heap.size, 6, none⟩ = some (.slice PA m pc) := by simp [go_sem]
  have hg0 : w.heap.size < (w.alloc (.cells #[.int .u64 (id : Int), .bool false, .slice LA n lc, .string ty, .int .u64 (fr : Int), .int .u64 (tw : Int), .slice PA m pc] 43)).heap.size := by simp
  clear hbb
  generalize w.alloc (.cells #[.int .u64 (id : Int), .bool false, .slice LA n lc, .string ty, .int .u64 (fr : Int), .int .u64 (tw : Int), .slice PA m pc] 43) = w0 at *
  refine (HI1.out _ HTB.out).mono ?_
  rintro e w1 ⟨rfl, hb1⟩
  have HT1 := Lib.hid (HTB.out.below hb1)
  have HM1 := Lib.hid (HMB.out.below hb1)
  have HP1 := Lib.hid (HPB.out.below hb1)
  have HS1 := Lib.hid (HSB.out.below hb1)
  have HB1 := Lib.hid (HBB.out.trans (hb1.mono HBB.out.size))
  have d2 := below_cell hb1 hg0 c2
  have HD6 := Lib.hid (below_cell hb1 hg0 c6)
  have HG1 := Lib.hid (Nat.lt_of_lt_of_le hg0 hb1.size)
  clear hb1 c2 c6 hg0 HTB HMB HPB HSB HBB
  go_wp2_with fail
  go_loopg [3, 37] n (fun q v i wr => ∃ (j : Nat), q + j = n ∧ i = .int .i64 (j : Int) ∧ v = .string (labT ((⟨#[110, 111, 100, 101, 32]⟩ : ByteArray) ++ sid) (ls.take j)) ∧ wr = w1)
  case atStart => exact ⟨0, rfl, rfl, rfl, rfl⟩
  case round =>
    obtain ⟨j, hj, rfl, rfl, rfl⟩ := hrel
    have hsz := labT_size 10 (ls.take j) ((⟨#[110, 111, 100, 101, 32]⟩ : ByteArray) ++ sid) (fun l hl => HLS.out l (List.mem_of_mem_take hl))
    rw [ByteArray.size_append, show (⟨#[110, 111, 100, 101, 32]⟩ : ByteArray).size = 5 from rfl, List.length_take] at hsz
    have hsz2 : (labT ((⟨#[110, 111, 100, 101, 32]⟩ : ByteArray) ++ sid) (ls.take j)).size ≤ 100000 := by
      have : min j ls.length ≤ j := Nat.min_le_left _ _
      omega
    clear hsz
    by_cases hlt : j < n
    · have hjx : j < ls.length := by rw [HLN.out]; exact hlt
      rcases HS1.out with h0 | ⟨g, o, rfl, hg, hl⟩
      · exact absurd hjx (by rw [h0]; simp)
      have hc := hl j hjx
      have HSN := Lib.hid (labT_snoc ((⟨#[110, 111, 100, 101, 32]⟩ : ByteArray) ++ sid) ls j hjx)
      have hz := HLS.out _ (List.getElem_mem hjx)
      clear hl hg
      generalize ls[j] = x at *
      generalize labT ((⟨#[110, 111, 100, 101, 32]⟩ : ByteArray) ++ sid) (ls.take j) = Tj at *
      go_wp2_with fail
      go_roundg (gk - 1)
      case measure => omega
      case rel => exact ⟨j + 1, by omega, by go_num, by rw [HSN.out], rfl⟩
    · obtain rfl : j = n := by omega
      rw [List.take_of_length_le (by rw [HLN.out]; exact Nat.le_refl _)] at hsz2 ⊢
      have h6 := HD6.out
      have HPC := Lib.hid (HPS.out _ HT1.out HM1.out HP1.out)
      generalize labT ((⟨#[110, 111, 100, 101, 32]⟩ : ByteArray) ++ sid) ls = Tj at *
      go_wp2_with (go_at_call 34; refine HPC.out.mono ?_; rintro e w2 ⟨rfl, hb2⟩; have HB2 := Lib.hid (HB1.out.trans (hb2.mono HB1.out.size)); clear hb2)
      go_ret
      exact ⟨by rw [HE.out]; rfl, HB2.out⟩
end Go.Proofs.YtkcgnodmjmpnhaaDoor
