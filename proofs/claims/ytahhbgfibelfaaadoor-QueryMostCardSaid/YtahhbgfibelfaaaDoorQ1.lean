import Derived.Test.YtahhbgfibelfaaaDoorLC
namespace Go.Proofs.YtahhbgfibelfaaaDoor
open Go.RowKit Go.Lib
set_option linter.unusedVariables false

/-! ### A question out of words, in plain Lean -/
/-- Where a reader of words stands: what is left, and where it is wrong (below 0: nowhere). -/
structure Ps where
  l : List Wd
  b : Int
def wEnd : Wd := ⟨0, ⟨#[]⟩, 0, 0⟩
def nowL : List Wd → Wd
  | [] => wEnd
  | x :: _ => x
def nxL : List Wd → List Wd
  | x :: y :: r => y :: r
  | l => l
def Ps.now (p : Ps) : Wd := nowL p.l
def Ps.nx (p : Ps) : Ps := ⟨nxL p.l, p.b⟩
def Ps.fl (p : Ps) (n : Int) : Ps := if p.b < 0 then ⟨p.l, n⟩ else p
def Ps.is (p : Ps) (k : Int) (s : ByteArray) : Bool := decide (p.b < 0) && (decide (p.now.k = k) && decide (p.now.s = s))
def Ps.may (p : Ps) (k : Int) (s : ByteArray) : Ps := if p.is k s then p.nx else p
def Ps.must (p : Ps) (k : Int) (s : ByteArray) : Ps := if p.is k s then p.nx else p.fl p.now.n
/-- A name of letters, digits and strokes. -/
def nameB (s : ByteArray) : Bool := decide (0 < s.size) && (decide (s.size ≤ 20) && (s.data.toList.all isN && !(isD (s.get! 0))))
def memB (l : List ByteArray) (s : ByteArray) : Bool := l.any fun x => decide (x = s)
theorem memB_iff (l : List ByteArray) (s : ByteArray) : memB l s = true ↔ s ∈ l := by
  unfold memB
  rw [List.any_eq_true]
  exact ⟨fun ⟨x, hx, e⟩ => (of_decide_eq_true e) ▸ hx, fun h => ⟨s, h, decide_eq_true rfl⟩⟩
def qname (s : ByteArray) : Bool := nameB s && !(memB kwords s)
def Ps.isName (p : Ps) : Bool := decide (p.now.k = 1) && qname p.now.s
def Ps.name (p : Ps) (m : Bool) : Ps := if p.isName then p.nx else if m then p.fl p.now.n else p
def Ps.nameS (p : Ps) : ByteArray := if p.isName then p.now.s else ⟨#[]⟩
structure Vl where
  k : Int
  n : Int
  s : ByteArray
def V0 : Vl := ⟨0, 0, ⟨#[]⟩⟩
def wTrue : ByteArray := ⟨#[116, 114, 117, 101]⟩
def wFalse : ByteArray := ⟨#[102, 97, 108, 115, 101]⟩
def wNothing : ByteArray := ⟨#[110, 111, 116, 104, 105, 110, 103]⟩
def mMinus : ByteArray := ⟨#[45]⟩
/-- What a word says; nothing: it says no value. -/
def Wd.val (w : Wd) (m : Bool) : Option Vl :=
  if w.k = 2 then some ⟨2, if m then - w.v else w.v, ⟨#[]⟩⟩
  else if m then none
  else if w.k = 3 then some ⟨3, 0, w.s⟩
  else if w.k = 1 then
    if w.s = wTrue then some ⟨1, 1, ⟨#[]⟩⟩ else if w.s = wFalse then some ⟨1, 0, ⟨#[]⟩⟩ else if w.s = wNothing then some V0 else none
  else none
def Ps.valW (p : Ps) : Option Vl := (p.may 4 mMinus).now.val (p.is 4 mMinus)
def Ps.val (p : Ps) : Ps := if p.valW.isSome then (p.may 4 mMinus).nx else (p.may 4 mMinus).nx.fl (p.may 4 mMinus).now.n
def Ps.valV (p : Ps) : Vl := p.valW.getD V0
structure Pr where
  p : ByteArray
  v : Vl
structure Nd where
  v : ByteArray
  l : ByteArray
  ps : List Pr
structure Ed where
  v : ByteArray
  t : ByteArray
  o : Bool
structure Co where
  v : ByteArray
  k : ByteArray
  o : Int
  x : Vl
structure It where
  v : ByteArray
  k : ByteArray
structure Qu where
  ns : List Nd
  es : List Ed
  ws : List Co
  ts : List It
  m : Int
def mOpen : ByteArray := ⟨#[40]⟩
def mClose : ByteArray := ⟨#[41]⟩
def mColon : ByteArray := ⟨#[58]⟩
def mCurl : ByteArray := ⟨#[123]⟩
def mUncurl : ByteArray := ⟨#[125]⟩
def mComma : ByteArray := ⟨#[44]⟩
def mDot : ByteArray := ⟨#[46]⟩
def mSq : ByteArray := ⟨#[91]⟩
def mUnsq : ByteArray := ⟨#[93]⟩
def mBack : ByteArray := ⟨#[60, 45]⟩
def mOn : ByteArray := ⟨#[45, 62]⟩
def kFind : ByteArray := ⟨#[102, 105, 110, 100]⟩
def kWhere : ByteArray := ⟨#[119, 104, 101, 114, 101]⟩
def kAnd : ByteArray := ⟨#[97, 110, 100]⟩
def kTell : ByteArray := ⟨#[116, 101, 108, 108]⟩
def kLimit : ByteArray := ⟨#[108, 105, 109, 105, 116]⟩
/-- A property: where it ends, and what it is. -/
def Ps.prop (p : Ps) : Ps := ((p.name true).must 4 mColon).val
def Ps.propV (p : Ps) : Pr := ⟨p.nameS, ((p.name true).must 4 mColon).valV⟩
/-- Properties with commas between them. -/
def propsW : Nat → Ps → List Pr → Ps × List Pr
  | 0, p, acc => (p, acc)
  | f + 1, p, acc => if p.prop.is 4 mComma then propsW f p.prop.nx (acc ++ [p.propV]) else (p.prop, acc ++ [p.propV])
/-- A name behind a mark, where the mark is. -/
def Ps.opt (p : Ps) (s : ByteArray) : Ps := if p.is 4 s then p.nx.name true else p
def Ps.optS (p : Ps) (s : ByteArray) : ByteArray := if p.is 4 s then p.nx.nameS else ⟨#[]⟩
def Ps.curl (p : Ps) : Ps := if p.is 4 mCurl then (propsW p.l.length p.nx []).1.must 4 mUncurl else p
def Ps.curlV (p : Ps) : List Pr := if p.is 4 mCurl then (propsW p.l.length p.nx []).2 else []
def Ps.node (p : Ps) : Ps := ((((p.must 4 mOpen).name false).opt mColon).curl).must 4 mClose
def Ps.nodeV (p : Ps) : Nd := ⟨(p.must 4 mOpen).nameS, ((p.must 4 mOpen).name false).optS mColon, (((p.must 4 mOpen).name false).opt mColon).curlV⟩
def Ps.edge0 (p : Ps) : Ps := (if p.is 4 mBack then p.nx else p.must 4 mMinus).must 4 mSq
def Ps.edge (p : Ps) : Ps := (((p.edge0.name false).opt mColon).must 4 mUnsq).must 4 (if p.is 4 mBack then mMinus else mOn)
def Ps.edgeV (p : Ps) : Ed := ⟨p.edge0.nameS, (p.edge0.name false).optS mColon, !(p.is 4 mBack)⟩
def Ps.cond0 (p : Ps) : Ps := ((p.name true).must 4 mDot).name true
def opI (w : Wd) : Option Nat := if w.k = 4 then opsL.findIdx? (fun s => decide (s = w.s)) else none
def Ps.cond (p : Ps) : Ps := if (opI p.cond0.now).isSome then p.cond0.nx.val else p.cond0.fl p.cond0.now.n
def Ps.condV (p : Ps) : Co :=
  match opI p.cond0.now with
  | some i => ⟨p.nameS, ((p.name true).must 4 mDot).nameS, (i : Int), p.cond0.nx.valV⟩
  | none => ⟨p.nameS, ((p.name true).must 4 mDot).nameS, 0, V0⟩
def Ps.item (p : Ps) : Ps := (p.name true).opt mDot
def Ps.itemV (p : Ps) : It := ⟨p.nameS, (p.name true).optS mDot⟩
def edgesW : Nat → Ps → List Ed → List Nd → Ps × List Ed × List Nd
  | 0, p, es, ns => (p, es, ns)
  | f + 1, p, es, ns => if p.is 4 mMinus || p.is 4 mBack then edgesW f p.edge.node (es ++ [p.edgeV]) (ns ++ [p.edge.nodeV]) else (p, es, ns)
def condsW : Nat → Ps → List Co → Ps × List Co
  | 0, p, acc => (p, acc)
  | f + 1, p, acc => if p.cond.is 1 kAnd then condsW f p.cond.nx (acc ++ [p.condV]) else (p.cond, acc ++ [p.condV])
def itemsW : Nat → Ps → List It → Ps × List It
  | 0, p, acc => (p, acc)
  | f + 1, p, acc => if p.item.is 4 mComma then itemsW f p.item.nx (acc ++ [p.itemV]) else (p.item, acc ++ [p.itemV])
def Ps.whereP (p : Ps) : Ps × List Co := if p.is 1 kWhere then condsW p.l.length p.nx [] else (p, [])
def Ps.tellP (p : Ps) : Ps × List It := if p.is 1 kTell then itemsW p.l.length p.nx [] else (p.fl p.now.n, [])
def Ps.lim (p : Ps) : Ps := if p.is 1 kLimit then (if p.nx.now.k = 2 ∧ p.nx.now.v ≤ 256 then p.nx.nx else (p.nx.fl p.nx.now.n).nx) else p
def Ps.limV (p : Ps) : Int := if p.is 1 kLimit then p.nx.now.v else 256
def Ps.fin (p : Ps) : Ps := if p.now.k = 0 then p else p.fl p.now.n
def questW (p : Ps) : Ps × Qu :=
  let p1 := p.must 1 kFind
  let r := edgesW p1.node.l.length p1.node [] [p1.nodeV]
  let c := r.1.whereP
  let t := c.1.tellP
  (t.1.lim.fin, ⟨r.2.2, r.2.1, c.2, t.2, t.1.limV⟩)

end Go.Proofs.YtahhbgfibelfaaaDoor
