import Derived.Test.YtahhbgfibelfaaaDoorL6
import Derived.Test.YtahhbgfibelfaaaDoorL8
import Derived.Test.YtahhbgfibelfaaaDoorL9
import Derived.Laws.ResultCell
namespace Go.Proofs.YtahhbgfibelfaaaDoor
open Go.RowKit Go.Lib
set_option linter.unusedVariables false



def ErrAt (w : World) (g : Nat) : Prop := ∃ ev, w.cell? ⟨g, 0, none⟩ = some ev ∧ (ev = .nilIface ∨ ∃ te pe, ev = .iface te pe)
theorem ErrAt.below {B g : Nat} {w w' : World} (h : ErrAt w g) (hb : Below B w w') (hB : g < B) : ErrAt w' g := by
  obtain ⟨ev, h1, h2⟩ := h
  exact ⟨ev, by rw [World.cell?_of_block (w := w) (hb.block g hB)]; exact h1, h2⟩
structure Laid (w : World) : Prop where
  mks : Marks w
  es : ErrAt w 3
  er : ErrAt w 4
  op : ∀ j (h : j < opsL.length), w.cell? ⟨0, j, none⟩ = some (.string opsL[j])
  wo : ∀ j (h : j < kwords.length), w.cell? ⟨2, j, none⟩ = some (.string kwords[j])
  sz : 9 ≤ w.heap.size
theorem Laid.below {w0 w w' : World} (h : Laid w) (hb : Below w.heap.size w w') : Laid w' := by
  have hz := h.sz
  have c : ∀ g j u, g < 9 → w.cell? ⟨g, j, none⟩ = some u → w'.cell? ⟨g, j, none⟩ = some u := fun g j u hg hu => by
    rw [World.cell?_of_block (w := w) (hb.block g (by omega))]; exact hu
  exact ⟨h.mks.below hb (by omega), h.es.below hb (by omega), h.er.below hb (by omega), fun j hj => c _ _ _ (by decide) (h.op j hj), fun j hj => c _ _ _ (by decide) (h.wo j hj), Nat.le_trans hz hb.size⟩
theorem Laid.alloc {w : World} (h : Laid w) (o : Obj) : Laid (w.alloc o) := h.below (w0 := w) ((Below.refl _ _).alloc (Nat.le_refl _) _)

theorem below_or {w w' : World} (h : w' = w ∨ ∃ t, w' = Lib.bytesWorld w 5 t) : Below w.heap.size w w' := by
  rcases h with rfl | ⟨t, rfl⟩
  · exact Below.refl _ _
  · exact Lib.bytesWorld_below _ _ _
theorem parse_ok (S : ByteArray) (v : Nat) (hs : S.size ≤ 1000000) (h : Lib.parseIntB 64 S.data.toList = .ok (v : Int)) (w : World) :
    Calls Tryd.prog 31 #[.string S, .int .i64 10, .int .i64 64] w fun e w' => e = .returned (.tuple #[.int .i64 v, .nilIface]) ∧ Below w.heap.size w w' :=
  (Tryd.strconv_ParseInt_10_at64_ok S (by omega) v h w).mono fun e w' ⟨h1, h2⟩ => ⟨h1, below_or h2⟩
def NoNum (w : World) (e : Ending) (w' : World) : Prop := ∃ (x : Int) (N : Nat), e = .returned (.tuple #[.int .i64 x, .iface 116 (.pointer (some ⟨N, 0, none⟩))]) ∧ Below w.heap.size w w'
theorem parse_no (S : ByteArray) (hs : S.size ≤ 1000000) (h : Lib.parseIntB 64 S.data.toList = .«syntax» ∨ Lib.parseIntB 64 S.data.toList = .range) (w : World) (hL : Laid w) :
    Calls Tryd.prog 31 #[.string S, .int .i64 10, .int .i64 64] w (NoNum w) := by
  rcases h with h | h
  · obtain ⟨ev, h1, h2⟩ := hL.es
    exact (Tryd.strconv_ParseInt_10_at64_syntax S (by omega) h ev w h1 h2).mono fun e w' ⟨N, he, _, _, hb⟩ => ⟨_, N, he, hb⟩
  · obtain ⟨ev, h1, h2⟩ := hL.er
    exact (Tryd.strconv_ParseInt_10_at64_range S (by omega) h ev w h1 h2).mono fun e w' ⟨N, he, _, _, hb⟩ => ⟨_, N, he, hb⟩

theorem four_facts {w : World} {g : Nat} {t : TypeId} {a b c d : Value} (h : Blk w g t #[a, b, c, d]) :
    w.cell? ⟨g, 0, none⟩ = some a ∧ w.cell? ⟨g, 1, none⟩ = some b ∧ w.cell? ⟨g, 2, none⟩ = some c ∧ w.cell? ⟨g, 3, none⟩ = some d ∧
    w.frozen? ⟨g, 0, none⟩ = false ∧ w.frozen? ⟨g, 1, none⟩ = false ∧ w.frozen? ⟨g, 2, none⟩ = false ∧ w.frozen? ⟨g, 3, none⟩ = false :=
  ⟨h.cell 0, h.cell 1, h.cell 2, h.cell 3, h.frozen 0, h.frozen 1, h.frozen 2, h.frozen 3⟩
theorem two_blocks {w w' : World} {t : TypeId} {xa xb : Array Value} (hb : Below ((w.alloc (.cells xa t)).alloc (.cells xb t)).heap.size ((w.alloc (.cells xa t)).alloc (.cells xb t)) w') :
    Blk w' w.heap.size t xa ∧ Blk w' (w.heap.size + 1) t xb ∧ Below w.heap.size w w' := by
  have h1 : Blk ((w.alloc (.cells xa t)).alloc (.cells xb t)) w.heap.size t xa := (Blk.new w t xa).alloc _
  have h2 : Blk ((w.alloc (.cells xa t)).alloc (.cells xb t)) (w.heap.size + 1) t xb := by
    have := Blk.new (w.alloc (.cells xa t)) t xb
    simpa using this
  exact ⟨h1.below hb h1.lt, h2.below hb h2.lt, (((Below.refl _ w).alloc (Nat.le_refl _) _).alloc (by simp) _).trans (hb.mono (by simp; omega))⟩

theorem only_below4 {w W : World} {p1 p2 p3 p4 : Nat} {v1 v2 v3 v4 : Value} (h : Below w.heap.size w W) :
    Below w.heap.size w ((((W.setCell ⟨w.heap.size, p1, none⟩ v1).setCell ⟨w.heap.size, p2, none⟩ v2).setCell ⟨w.heap.size, p3, none⟩ v3).setCell ⟨w.heap.size, p4, none⟩ v4) :=
  Only.below (w := w) (S := []) ((((Only.of_below h []).setNew (Nat.le_refl _) _ |>.setNew (Nat.le_refl _) _).setNew (Nat.le_refl _) _).setNew (Nat.le_refl _) _) (Nat.le_refl _) (by simp)
theorem only_below5 {w W : World} {q1 q2 p1 p2 p3 p4 : Nat} {u1 u2 v1 v2 v3 v4 : Value} (h : Below w.heap.size w W) :
    Below w.heap.size w ((((((W.setCell ⟨w.heap.size + 1, q1, none⟩ u1).setCell ⟨w.heap.size + 1, q2, none⟩ u2).setCell ⟨w.heap.size, p1, none⟩ v1).setCell ⟨w.heap.size, p2, none⟩ v2).setCell ⟨w.heap.size, p3, none⟩ v3).setCell ⟨w.heap.size, p4, none⟩ v4) :=
  only_below4 (Only.below (w := w) (S := []) (((Only.of_below h []).setNew (Nat.le_succ _) _).setNew (Nat.le_succ _) _) (Nat.le_refl _) (by simp))

/-- What lex.one answers. -/
def OnePost (r : List Value × Nat) (w : World) (e : Ending) (w' : World) : Prop :=
  Below w.heap.size w w' ∧ ∃ a b c d, e = .returned (.tuple #[.agg #[.int .i64 a, .string b, .int .i64 c, .int .i64 d], .int .i64 (r.2 : Nat)]) ∧ (r.2 ≠ 0 → r.1 = [.int .i64 a, .string b, .int .i64 c, .int .i64 d])

set_option maxHeartbeats 4000000 in
set_option maxRecDepth 10000 in
theorem one_lex_letter (s : ByteArray) (n : Nat) (hlt : n < s.size) (hs : s.size ≤ 1000000) (hl : isL s[n] = true) (w : World) :
    Calls Tryd.prog 10 #[.string s, .int .i64 n] w (OnePost (oneS s n) w) := by
  rw [one_letter hlt hl]
  have HI := Lib.hid (is_letter s[n])
  rw [hl] at HI
  have HR := Lib.hid (run_ok is_name s n (by omega) hs)
  have hrl := runs_le isN s n
  generalize hr : runs isN s n = m at *
  have hmle : n + m ≤ s.size := by omega
  obtain ⟨p, hp⟩ : ∃ p, p = n + m := ⟨_, rfl⟩
  rw [← hp] at hmle ⊢
  have hE := fun w => slice_nat (s := s) (a := n) (b := p) (by omega) hmle w
  have hnn : (n : Int) + (m : Int) = (p : Int) := by omega
  generalize s.extract n p = S at *
  clear hr hp hrl hl
  generalize hc : s[n] = c at *
  go_enter Tryd.func10, Tryd.ntmps10
  go_wp2_with (first
    | (go_at_call 30; refine (HI.out _).mono ?_; rintro e w' ⟨rfl, rfl⟩)
    | (go_at_call 9; refine (HR.out _).mono ?_; rintro e w' ⟨rfl, rfl⟩))
  go_region
  go_wp2_with fail
  refine bodyPost_ret (v := .tuple #[.agg #[.int .i64 1, .string S, .int .i64 0, .int .i64 n], .int .i64 m]) (by rw [results_cell_tmp (fn := Tryd.f10) rfl]; go_simp) rfl ?_
  exact ⟨below_drew (((Below.refl _ w).alloc (Nat.le_refl _) _).alloc (by simp) _), _, _, _, _, rfl, fun _ => rfl⟩

set_option maxHeartbeats 4000000 in
set_option maxRecDepth 10000 in
theorem one_lex_digit (s : ByteArray) (n : Nat) (hlt : n < s.size) (hs : s.size ≤ 1000000) (hl : isL s[n] = false) (hd : isD s[n] = true) (w : World) (hL : Laid w) :
    Calls Tryd.prog 10 #[.string s, .int .i64 n] w (OnePost (oneS s n) w) := by
  have HI := Lib.hid (is_letter s[n])
  rw [hl] at HI
  have HJ := Lib.hid (is_digit s[n])
  rw [hd] at HJ
  have HR := Lib.hid (run_ok is_name s n (by omega) hs)
  have HRD := Lib.hid (run_ok is_digit s n (by omega) hs)
  have hrl := runs_le isN s n
  have hre := rem_extract s n (runs isN s n) (by omega)
  have hbad := one_digit_no hlt hl hd
  have hgood := fun v => one_digit (v := v) hlt hl hd
  have hhead : ∃ t, (rem s n).take (runs isN s n) = s[n] :: t := by
    rw [rem_cons hlt, runs_step hlt (by simp [isN, hd]), List.take_succ_cons]
    exact ⟨_, rfl⟩
  have hLw := Lib.hid ((hL.alloc (.cells #[.int .i64 0, .string ⟨#[]⟩, .int .i64 0, .int .i64 0] 47)).alloc (.cells #[.int .i64 0, .string ⟨#[]⟩, .int .i64 0, .int .i64 n] 47))
  have hruns : ∀ v, numF 0 ((rem s n).take (runs isN s n)) = some v → runs isD s n = runs isN s n := fun v hv => by
    have hall := numF_digits _ _ _ hv
    have key : ∀ (k a : Nat), runs isN s a = k → (∀ c ∈ (rem s a).take k, isD c = true) → runs isD s a = k := by
      intro k
      induction k with
      | zero =>
        intro a ha _
        rcases Nat.lt_or_ge a s.size with h | h
        · cases hp : isD s[a] with
          | true => rw [runs_step h (by simp [isN, hp])] at ha; omega
          | false => exact runs_stop h hp
        · exact runs_end h
      | succ k ih =>
        intro a ha hc
        have h0 := runs_at (p := isN) (s := s) a 0 (by omega)
        obtain ⟨h, _⟩ := h0
        have h' : a < s.size := by omega
        have hn : isN s[a] = true := by
          cases hp : isN s[a] with
          | true => rfl
          | false => rw [runs_stop h' hp] at ha; omega
        rw [rem_cons h', List.take_succ_cons] at hc
        have hda := hc _ (List.mem_cons_self ..)
        rw [runs_step h' hn] at ha
        rw [runs_step h' hda, ih (a + 1) (by omega) (fun c hm => hc c (List.mem_cons_of_mem _ hm))]
    exact key _ n rfl hall
  generalize hr : runs isN s n = m at *
  generalize hrd : runs isD s n = md at *
  have hmle : n + m ≤ s.size := by omega
  obtain ⟨p, hp⟩ : ∃ p, p = n + m := ⟨_, rfl⟩
  rw [← hp] at hmle hre
  have hE := fun w => slice_nat (s := s) (a := n) (b := p) (by omega) hmle w
  have hnn : (n : Int) + (m : Int) = (p : Int) := by omega
  have hSz : (s.extract n p).size ≤ 1000000 := by rw [ByteArray.size_extract]; omega
  generalize s.extract n p = S at *
  have hSl : S.data.toList = (rem s n).take m := hre
  obtain ⟨t, ht⟩ := hhead
  have hpi := pi_num (r := t) hd
  rw [← ht, ← hSl] at hpi
  rw [← hSl] at hbad hgood hruns
  clear hre ht hSl hr hrd hp hrl
  generalize hc : s[n] = c at *
  cases hv : numF 0 S.data.toList with
  | some v =>
    rw [hgood v hv]
    have HPK := Lib.hid (parse_ok S v hSz (hpi.1 v hv))
    have hmd := hruns v hv
    subst hmd
    clear hgood hbad hpi hv hruns hL hLw
    go_enter Tryd.func10, Tryd.ntmps10
    go_wp2_with fail
    refine (HI.out _).mono ?_
    rintro e w' ⟨rfl, rfl⟩
    go_wp2_with fail
    refine (HJ.out _).mono ?_
    rintro e w' ⟨rfl, rfl⟩
    go_wp2_with fail
    refine (HR.out _).mono ?_
    rintro e w' ⟨rfl, rfl⟩
    go_wp2_with fail
    refine (HPK.out _).mono ?_
    rintro e w' ⟨rfl, hb⟩
    obtain ⟨h1, h2, h3⟩ := two_blocks hb
    obtain ⟨a0, a1, a2, a3, b0, b1, b2, b3⟩ := four_facts h1
    obtain ⟨x0, x1, x2, x3, y0, y1, y2, y3⟩ := four_facts h2
    have HB := Lib.hid h3
    clear hb h1 h2 h3
    go_wp2_with fail
    refine (HRD.out _).mono ?_
    rintro e w'' ⟨rfl, rfl⟩
    go_wp2_with fail
    refine bodyPost_ret (v := .tuple #[.agg #[.int .i64 2, .string ⟨#[]⟩, .int .i64 v, .int .i64 n], .int .i64 md]) (by rw [results_cell_tmp (fn := Tryd.f10) rfl]; go_simp) rfl ?_
    exact ⟨only_below5 HB.out, _, _, _, _, rfl, fun _ => rfl⟩
  | none =>
    rw [hbad hv]
    have HPK := Lib.hid (parse_no S hSz (hpi.2 hv) _ hLw.out)
    clear hgood hbad hpi hv hruns hL hLw
    go_enter Tryd.func10, Tryd.ntmps10
    go_wp2_with fail
    refine (HI.out _).mono ?_
    rintro e w' ⟨rfl, rfl⟩
    go_wp2_with fail
    refine (HJ.out _).mono ?_
    rintro e w' ⟨rfl, rfl⟩
    go_wp2_with fail
    refine (HR.out _).mono ?_
    rintro e w' ⟨rfl, rfl⟩
    go_wp2_with fail
    refine HPK.out.mono ?_
    rintro e w' ⟨x, N, rfl, hb⟩
    obtain ⟨h1, h2, h3⟩ := two_blocks hb
    obtain ⟨a0, a1, a2, a3, b0, b1, b2, b3⟩ := four_facts h1
    obtain ⟨x0, x1, x2, x3, y0, y1, y2, y3⟩ := four_facts h2
    have HB := Lib.hid h3
    clear hb h1 h2 h3
    go_wp2_with fail
    refine bodyPost_ret (v := .tuple #[.agg #[.int .i64 0, .string ⟨#[]⟩, .int .i64 0, .int .i64 n], .int .i64 0]) (by rw [results_cell_tmp (fn := Tryd.f10) rfl]; go_simp) rfl ?_
    exact ⟨only_below4 HB.out, _, _, _, _, rfl, fun h => absurd rfl h⟩

theorem rem_from (s : ByteArray) (n k : Nat) (h : n ≤ s.size) : rem (s.extract n s.size) k = rem s (n + k) := by
  have e := rem_extract s n (s.size - n) (by omega)
  rw [show n + (s.size - n) = s.size by omega, List.take_of_length_le (by rw [rem_length]; omega)] at e
  have e2 := rem_drop (s.extract n s.size) 0 k
  rw [Nat.zero_add, e, rem_drop] at e2
  exact e2.symm
theorem slice_from {s : ByteArray} {n : Nat} (h : n ≤ s.size) (w : World) : (Instr.slice 9 (.string s) (some (.int .i64 (n : Int))) none none).run Tryd.prog w = .ok (.string (s.extract n s.size)) w := by
  rw [run_slice_string_from_if w 9 s .i64 n Tryd.underlying9, if_pos (by omega)]
  rfl
theorem mk_toList (S : ByteArray) : (⟨S.data.toList.toArray⟩ : ByteArray) = S := by
  apply ByteArray.ext; simp

set_option maxHeartbeats 4000000 in
set_option maxRecDepth 10000 in
theorem one_lex_text (s : ByteArray) (n : Nat) (hlt : n < s.size) (hs : s.size ≤ 1000000) (hq : s[n].toNat = 34) (w : World) :
    Calls Tryd.prog 10 #[.string s, .int .i64 n] w (OnePost (oneS s n) w) := by
  have HI := Lib.hid (show ∀ w, Calls Tryd.prog 30 #[.int .u8 34, .string bLetter] w (fun e w' => e = .returned (.bool false) ∧ w = w') from is_letter 34)
  have HJ := Lib.hid (show ∀ w, Calls Tryd.prog 30 #[.int .u8 34, .string bDigit] w (fun e w' => e = .returned (.bool false) ∧ w = w') from is_digit 34)
  have hE := fun w => slice_from (s := s) (n := n) (by omega) w
  have hSz : (s.extract n s.size).size ≤ 1000000 := by rw [ByteArray.size_extract]; omega
  have hS1 : 1 ≤ (s.extract n s.size).size := by rw [ByteArray.size_extract]; omega
  have HTX := Lib.hid (text_lex _ hS1 hSz)
  rw [rem_from s n 1 (by omega)] at HTX
  have hno := one_text_no hlt hq
  have hyes := fun t m => one_text (t := t) (m := m) hlt hq
  clear hSz hS1
  generalize s.extract n s.size = S at *
  generalize hc : s[n] = c at *
  cases ht : txt (rem s (n + 1)) [] 1 with
  | none =>
    rw [hno ht]
    rw [ht] at HTX
    have HTX : Hid (∀ w, Calls Tryd.prog 32 #[.string S] w fun e w' => e = .returned (.tuple #[.string ⟨#[]⟩, .int .i64 0, .bool false]) ∧ Below w.heap.size w w') := HTX
    clear hno hyes ht
    go_enter Tryd.func10, Tryd.ntmps10
    go_wp2_with fail
    refine (HI.out _).mono ?_
    rintro e w' ⟨rfl, rfl⟩
    go_wp2_with fail
    refine (HJ.out _).mono ?_
    rintro e w' ⟨rfl, rfl⟩
    go_wp2_with fail
    refine (HTX.out _).mono ?_
    rintro e w' ⟨rfl, hb⟩
    obtain ⟨h1, h2, h3⟩ := two_blocks hb
    obtain ⟨a0, a1, a2, a3, b0, b1, b2, b3⟩ := four_facts h1
    obtain ⟨x0, x1, x2, x3, y0, y1, y2, y3⟩ := four_facts h2
    have HB := Lib.hid h3
    clear hb h1 h2 h3
    go_wp2_with fail
    refine bodyPost_ret (v := .tuple #[.agg #[.int .i64 0, .string ⟨#[]⟩, .int .i64 0, .int .i64 n], .int .i64 0]) (by rw [results_cell_tmp (fn := Tryd.f10) rfl]; go_simp) rfl ?_
    exact ⟨only_below4 HB.out, _, _, _, _, rfl, fun h => absurd rfl h⟩
  | some r =>
    obtain ⟨t, m⟩ := r
    rw [hyes t m ht]
    rw [ht] at HTX
    have HTX : Hid (∀ w, Calls Tryd.prog 32 #[.string S] w fun e w' => e = .returned (.tuple #[.string ⟨t.toArray⟩, .int .i64 m, .bool true]) ∧ Below w.heap.size w w') := HTX
    generalize (⟨t.toArray⟩ : ByteArray) = T at *
    clear hno hyes ht
    go_enter Tryd.func10, Tryd.ntmps10
    go_wp2_with fail
    refine (HI.out _).mono ?_
    rintro e w' ⟨rfl, rfl⟩
    go_wp2_with fail
    refine (HJ.out _).mono ?_
    rintro e w' ⟨rfl, rfl⟩
    go_wp2_with fail
    refine (HTX.out _).mono ?_
    rintro e w' ⟨rfl, hb⟩
    obtain ⟨h1, h2, h3⟩ := two_blocks hb
    obtain ⟨a0, a1, a2, a3, b0, b1, b2, b3⟩ := four_facts h1
    obtain ⟨x0, x1, x2, x3, y0, y1, y2, y3⟩ := four_facts h2
    have HB := Lib.hid h3
    clear hb h1 h2 h3
    go_wp2_with fail
    refine bodyPost_ret (v := .tuple #[.agg #[.int .i64 3, .string T, .int .i64 0, .int .i64 n], .int .i64 m]) (by rw [results_cell_tmp (fn := Tryd.f10) rfl]; go_simp) rfl ?_
    exact ⟨only_below5 HB.out, _, _, _, _, rfl, fun _ => rfl⟩

set_option maxHeartbeats 4000000 in
set_option maxRecDepth 10000 in
theorem one_lex_mark (s : ByteArray) (n : Nat) (hlt : n < s.size) (hs : s.size ≤ 1000000) (hl : isL s[n] = false) (hd : isD s[n] = false) (hq : ¬ s[n].toNat = 34) (w : World) (hL : Laid w) :
    Calls Tryd.prog 10 #[.string s, .int .i64 n] w (OnePost (oneS s n) w) := by
  rw [one_mark hlt hl hd hq]
  have HI := Lib.hid (is_letter s[n])
  rw [hl] at HI
  have HJ := Lib.hid (is_digit s[n])
  rw [hd] at HJ
  have hE := fun w => slice_from (s := s) (n := n) (by omega) w
  have hSz : (s.extract n s.size).size ≤ 1000000 := by rw [ByteArray.size_extract]; omega
  have hLw := (hL.alloc (.cells #[.int .i64 0, .string ⟨#[]⟩, .int .i64 0, .int .i64 0] 47)).alloc (.cells #[.int .i64 0, .string ⟨#[]⟩, .int .i64 0, .int .i64 n] 47)
  have HMK := Lib.hid (mark_lex _ hSz _ hLw.mks)
  rw [rem_from s n 0 (by omega), Nat.add_zero] at HMK
  have hml := mk_le (rem s n)
  rw [rem_length] at hml
  have hre := rem_extract s n (mk (rem s n)) (by omega)
  have hsz2 : (s.extract n (n + mk (rem s n))).size = mk (rem s n) := by rw [ByteArray.size_extract]; omega
  rw [← hre] at HMK
  have e1 : (⟨(rem (s.extract n (n + mk (rem s n))) 0).toArray⟩ : ByteArray) = s.extract n (n + mk (rem s n)) := mk_toList _
  rw [e1] at HMK
  clear hre e1 hSz hL hLw hml
  generalize mk (rem s n) = m at *
  generalize s.extract n (n + m) = T at *
  generalize s.extract n s.size = S at *
  generalize hc : s[n] = c at *
  have hx : c.toNat < 256 := c.toNat_lt
  go_enter Tryd.func10, Tryd.ntmps10
  go_wp2_with fail
  refine (HI.out _).mono ?_
  rintro e w' ⟨rfl, rfl⟩
  go_wp2_with fail
  refine (HJ.out _).mono ?_
  rintro e w' ⟨rfl, rfl⟩
  go_wp2_with fail
  refine HMK.out.mono ?_
  rintro e w' ⟨rfl, rfl⟩
  go_wp2_with fail
  go_region
  go_wp2_with fail
  refine bodyPost_ret (v := .tuple #[.agg #[.int .i64 4, .string T, .int .i64 0, .int .i64 n], .int .i64 m]) (by rw [results_cell_tmp (fn := Tryd.f10) rfl]; go_simp) rfl ?_
  exact ⟨below_drew (((Below.refl _ w).alloc (Nat.le_refl _) _).alloc (by simp) _), _, _, _, _, rfl, fun _ => rfl⟩

theorem one_lex (s : ByteArray) (n : Nat) (hlt : n < s.size) (hs : s.size ≤ 1000000) (w : World) (hL : Laid w) :
    Calls Tryd.prog 10 #[.string s, .int .i64 n] w (OnePost (oneS s n) w) := by
  cases hl : isL s[n] with
  | true => exact one_lex_letter s n hlt hs hl w
  | false =>
    cases hd : isD s[n] with
    | true => exact one_lex_digit s n hlt hs hl hd w hL
    | false =>
      by_cases hq : s[n].toNat = 34
      · exact one_lex_text s n hlt hs hq w
      · exact one_lex_mark s n hlt hs hl hd hq w hL

end Go.Proofs.YtahhbgfibelfaaaDoor
