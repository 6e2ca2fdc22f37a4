/-
  NARROWER THAN 'FOR EVERY INPUT', by the rows' own cells (each row's printed sentence says how): PagerLays: laid · PagerHeads: laid · PagerBent: laid · PagerNone: laid · PagerPlays: laid · BlobFull: laid · TreeInput: laid · CursorRanges: laid · TreeGrows: laid · TreeKeeps: laid · TreeAgain: laid · TreePages: laid · CursorNexts: laid.
  DERIVED. THE GIVEN ROWS OF THIS SEAT. 13 by the template 'for every input the law returns true; each argument reads behind the call as it read before'; 0 by the template 'total and deterministic' (their statements: YtimpjlnbbdfehaaGreatDoorTotals.lean).
  GIVEN WITH THE SEED: the statements are not yours to turn. If you find one false, say at which input.
  Laid BY PROGRAM, IN A SANDBOX (cutbox-rows.mjs): the forced cells as the released guide's own fill.sh prints them over the translation 43d595b26e802f7a… (all of the seat's roots in one cut). By AI agents, Wed Nov 11 2026. No macro, syntax, notation, axiom, sorry.
-/
import Derived.Test.YtimpjlnbbdfehaaGreatDoorChecked
import GoSem.PinnedTables
import GoSem.Claim
import GoSem.ClaimJoined
import GoSem.ClaimMapViews
import Derived.JoinedTies
import Derived.KernelRfl
namespace Go.Proofs.YtimpjlnbbdfehaaGreatDoor
/- THE CELL 'sum', in the pinned program and in every row, IS THE sha256 OF THE DUMP (.gsa) THAT YtimpjlnbbdfehaaGreatDoorProg.lean LOADS. Nothing in Lean hashes anything: it is a label: what it is worth is what the hold of that sum in a sandbox is worth. -/
noncomputable def Tryz.pinned : Pinned := { name := "ytimpjlnbbdfehaagreatdoor", sum := "43d595b26e802f7a396c7e983690b16ca503d60daabdeec6de706a555c141596", checked := Tryz.checked }
namespace Rows
def none {H : Type} : Left H := { results := [], args := [] }

/- WHAT THE LISTED PACKAGE-LEVEL VARIABLES READ AS WHEN THE CALL BEGINS. Each datum BY PROGRAM (the guide's laid-datum.mjs) off the statement by which the dump's own 'gosem.cut.vars' lays the variable. In a bare row this is a premise. The card (YtimpjlnbbdfehaaGreatDoorCards.lean) ties it to the program's text. -/
def laid_lodestone_sha_salts {H : Type} : DataW H := .agg [.lit (.int .u32 1116352408), .lit (.int .u32 1899447441), .lit (.int .u32 3049323471), .lit (.int .u32 3921009573), .lit (.int .u32 961987163), .lit (.int .u32 1508970993), .lit (.int .u32 2453635748), .lit (.int .u32 2870763221), .lit (.int .u32 3624381080), .lit (.int .u32 310598401), .lit (.int .u32 607225278), .lit (.int .u32 1426881987), .lit (.int .u32 1925078388), .lit (.int .u32 2162078206), .lit (.int .u32 2614888103), .lit (.int .u32 3248222580), .lit (.int .u32 3835390401), .lit (.int .u32 4022224774), .lit (.int .u32 264347078), .lit (.int .u32 604807628), .lit (.int .u32 770255983), .lit (.int .u32 1249150122), .lit (.int .u32 1555081692), .lit (.int .u32 1996064986), .lit (.int .u32 2554220882), .lit (.int .u32 2821834349), .lit (.int .u32 2952996808), .lit (.int .u32 3210313671), .lit (.int .u32 3336571891), .lit (.int .u32 3584528711), .lit (.int .u32 113926993), .lit (.int .u32 338241895), .lit (.int .u32 666307205), .lit (.int .u32 773529912), .lit (.int .u32 1294757372), .lit (.int .u32 1396182291), .lit (.int .u32 1695183700), .lit (.int .u32 1986661051), .lit (.int .u32 2177026350), .lit (.int .u32 2456956037), .lit (.int .u32 2730485921), .lit (.int .u32 2820302411), .lit (.int .u32 3259730800), .lit (.int .u32 3345764771), .lit (.int .u32 3516065817), .lit (.int .u32 3600352804), .lit (.int .u32 4094571909), .lit (.int .u32 275423344), .lit (.int .u32 430227734), .lit (.int .u32 506948616), .lit (.int .u32 659060556), .lit (.int .u32 883997877), .lit (.int .u32 958139571), .lit (.int .u32 1322822218), .lit (.int .u32 1537002063), .lit (.int .u32 1747873779), .lit (.int .u32 1955562222), .lit (.int .u32 2024104815), .lit (.int .u32 2227730452), .lit (.int .u32 2361852424), .lit (.int .u32 2428436474), .lit (.int .u32 2756734187), .lit (.int .u32 3204031479), .lit (.int .u32 3329325298)]
def laid_unicode_utf8_acceptRanges {H : Type} : DataW H := .agg [.agg [.lit (.int .u8 128), .lit (.int .u8 191)], .agg [.lit (.int .u8 160), .lit (.int .u8 191)], .agg [.lit (.int .u8 128), .lit (.int .u8 159)], .agg [.lit (.int .u8 144), .lit (.int .u8 191)], .agg [.lit (.int .u8 128), .lit (.int .u8 143)], .agg [.lit (.int .u8 0), .lit (.int .u8 0)], .agg [.lit (.int .u8 0), .lit (.int .u8 0)], .agg [.lit (.int .u8 0), .lit (.int .u8 0)], .agg [.lit (.int .u8 0), .lit (.int .u8 0)], .agg [.lit (.int .u8 0), .lit (.int .u8 0)], .agg [.lit (.int .u8 0), .lit (.int .u8 0)], .agg [.lit (.int .u8 0), .lit (.int .u8 0)], .agg [.lit (.int .u8 0), .lit (.int .u8 0)], .agg [.lit (.int .u8 0), .lit (.int .u8 0)], .agg [.lit (.int .u8 0), .lit (.int .u8 0)], .agg [.lit (.int .u8 0), .lit (.int .u8 0)]]
/-- One of Go's own tables, pinned by name: the form's constant. -/
def laid_unicode_utf8_first : DataW Unit := Go.Pinned.utf8First

/-- 'lodestonelaw16.PagerLays': WHATEVER THE INPUT: true; the input reads as it did. -/
def pagerLaysSpec : ChangeSpec := { name := "pagerLays", fn := fun _ => fun
  | [d1, d2, d3] => { results := [.lit (.bool true)], args := [d1, d2, d3] }
  | _ => none }
def pagerLaysRow : OpenClaim := { program := "ytimpjlnbbdfehaagreatdoor", sum := "43d595b26e802f7a396c7e983690b16ca503d60daabdeec6de706a555c141596", func := "lodestone/lodestonelaw16.PagerLays", spec := "pagerLays", inPlace := ["internal/abi.NoEscape", "internal/bytealg.MakeNoZero", "internal/bytealg.IndexByteString", "internal/bytealg.IndexString"], named := ["lodestone/sha.salts", "unicode/utf8.first", "unicode/utf8.acceptRanges", "internal/bytealg.MaxLen"], plainKeys := false, apart := false, laid := [("lodestone/sha.salts", laid_lodestone_sha_salts), ("unicode/utf8.acceptRanges", laid_unicode_utf8_acceptRanges), ("unicode/utf8.first", laid_unicode_utf8_first)] }
def PagerLaysSaid : Prop := pagerLaysRow.holds Tryz.pinned (OpenSpec.ofChange pagerLaysSpec)

/-- ITS FALSE NEIGHBOUR: 'it returns false'. Refute it at one input. -/
def pagerLaysWrong : ChangeSpec := { name := "pagerLays", fn := fun _ => fun
  | [d1, d2, d3] => { results := [.lit (.bool false)], args := [d1, d2, d3] }
  | _ => none }
def PagerLaysWrongFalsely : Prop := pagerLaysRow.holds Tryz.pinned (OpenSpec.ofChange pagerLaysWrong)

/-- 'lodestonelaw16.PagerHeads': WHATEVER THE INPUT: true; the input reads as it did. -/
def pagerHeadsSpec : ChangeSpec := { name := "pagerHeads", fn := fun _ => fun
  | [d] => { results := [.lit (.bool true)], args := [d] }
  | _ => none }
def pagerHeadsRow : OpenClaim := { program := "ytimpjlnbbdfehaagreatdoor", sum := "43d595b26e802f7a396c7e983690b16ca503d60daabdeec6de706a555c141596", func := "lodestone/lodestonelaw16.PagerHeads", spec := "pagerHeads", inPlace := ["internal/abi.NoEscape", "internal/bytealg.MakeNoZero", "internal/bytealg.IndexByteString", "internal/bytealg.IndexString"], named := ["lodestone/sha.salts", "unicode/utf8.first", "unicode/utf8.acceptRanges", "internal/bytealg.MaxLen"], plainKeys := false, apart := false, laid := [("lodestone/sha.salts", laid_lodestone_sha_salts), ("unicode/utf8.acceptRanges", laid_unicode_utf8_acceptRanges), ("unicode/utf8.first", laid_unicode_utf8_first)] }
def PagerHeadsSaid : Prop := pagerHeadsRow.holds Tryz.pinned (OpenSpec.ofChange pagerHeadsSpec)

/-- ITS FALSE NEIGHBOUR: 'it returns false'. Refute it at one input. -/
def pagerHeadsWrong : ChangeSpec := { name := "pagerHeads", fn := fun _ => fun
  | [d] => { results := [.lit (.bool false)], args := [d] }
  | _ => none }
def PagerHeadsWrongFalsely : Prop := pagerHeadsRow.holds Tryz.pinned (OpenSpec.ofChange pagerHeadsWrong)

/-- 'lodestonelaw16.PagerBent': WHATEVER THE INPUT: true; the input reads as it did. -/
def pagerBentSpec : ChangeSpec := { name := "pagerBent", fn := fun _ => fun
  | [d1, d2, d3] => { results := [.lit (.bool true)], args := [d1, d2, d3] }
  | _ => none }
def pagerBentRow : OpenClaim := { program := "ytimpjlnbbdfehaagreatdoor", sum := "43d595b26e802f7a396c7e983690b16ca503d60daabdeec6de706a555c141596", func := "lodestone/lodestonelaw16.PagerBent", spec := "pagerBent", inPlace := ["internal/abi.NoEscape", "internal/bytealg.MakeNoZero", "internal/bytealg.IndexByteString", "internal/bytealg.IndexString"], named := ["lodestone/sha.salts", "unicode/utf8.first", "unicode/utf8.acceptRanges", "internal/bytealg.MaxLen"], plainKeys := false, apart := false, laid := [("lodestone/sha.salts", laid_lodestone_sha_salts), ("unicode/utf8.acceptRanges", laid_unicode_utf8_acceptRanges), ("unicode/utf8.first", laid_unicode_utf8_first)] }
def PagerBentSaid : Prop := pagerBentRow.holds Tryz.pinned (OpenSpec.ofChange pagerBentSpec)

/-- ITS FALSE NEIGHBOUR: 'it returns false'. Refute it at one input. -/
def pagerBentWrong : ChangeSpec := { name := "pagerBent", fn := fun _ => fun
  | [d1, d2, d3] => { results := [.lit (.bool false)], args := [d1, d2, d3] }
  | _ => none }
def PagerBentWrongFalsely : Prop := pagerBentRow.holds Tryz.pinned (OpenSpec.ofChange pagerBentWrong)

/-- 'lodestonelaw16.PagerNone': WHATEVER THE INPUT: true; the input reads as it did. -/
def pagerNoneSpec : ChangeSpec := { name := "pagerNone", fn := fun _ => fun
  | [d1, d2] => { results := [.lit (.bool true)], args := [d1, d2] }
  | _ => none }
def pagerNoneRow : OpenClaim := { program := "ytimpjlnbbdfehaagreatdoor", sum := "43d595b26e802f7a396c7e983690b16ca503d60daabdeec6de706a555c141596", func := "lodestone/lodestonelaw16.PagerNone", spec := "pagerNone", inPlace := ["internal/abi.NoEscape", "internal/bytealg.MakeNoZero", "internal/bytealg.IndexByteString", "internal/bytealg.IndexString"], unfollowed := true, recurses := true, named := ["lodestone/sha.salts", "unicode/utf8.first", "unicode/utf8.acceptRanges", "internal/bytealg.MaxLen"], plainKeys := false, apart := false, laid := [("lodestone/sha.salts", laid_lodestone_sha_salts), ("unicode/utf8.acceptRanges", laid_unicode_utf8_acceptRanges), ("unicode/utf8.first", laid_unicode_utf8_first)] }
def PagerNoneSaid : Prop := pagerNoneRow.holds Tryz.pinned (OpenSpec.ofChange pagerNoneSpec)

/-- ITS FALSE NEIGHBOUR: 'it returns false'. Refute it at one input. -/
def pagerNoneWrong : ChangeSpec := { name := "pagerNone", fn := fun _ => fun
  | [d1, d2] => { results := [.lit (.bool false)], args := [d1, d2] }
  | _ => none }
def PagerNoneWrongFalsely : Prop := pagerNoneRow.holds Tryz.pinned (OpenSpec.ofChange pagerNoneWrong)

/-- 'lodestonelaw16.PagerPlays': WHATEVER THE INPUT: true; the input reads as it did. -/
def pagerPlaysSpec : ChangeSpec := { name := "pagerPlays", fn := fun _ => fun
  | [d1, d2, d3] => { results := [.lit (.bool true)], args := [d1, d2, d3] }
  | _ => none }
def pagerPlaysRow : OpenClaim := { program := "ytimpjlnbbdfehaagreatdoor", sum := "43d595b26e802f7a396c7e983690b16ca503d60daabdeec6de706a555c141596", func := "lodestone/lodestonelaw16.PagerPlays", spec := "pagerPlays", inPlace := ["internal/abi.NoEscape", "internal/bytealg.MakeNoZero", "internal/bytealg.IndexByteString", "internal/bytealg.IndexString"], unfollowed := true, recurses := true, named := ["lodestone/sha.salts", "unicode/utf8.first", "unicode/utf8.acceptRanges", "internal/bytealg.MaxLen"], plainKeys := false, apart := false, laid := [("lodestone/sha.salts", laid_lodestone_sha_salts), ("unicode/utf8.acceptRanges", laid_unicode_utf8_acceptRanges), ("unicode/utf8.first", laid_unicode_utf8_first)] }
def PagerPlaysSaid : Prop := pagerPlaysRow.holds Tryz.pinned (OpenSpec.ofChange pagerPlaysSpec)

/-- ITS FALSE NEIGHBOUR: 'it returns false'. Refute it at one input. -/
def pagerPlaysWrong : ChangeSpec := { name := "pagerPlays", fn := fun _ => fun
  | [d1, d2, d3] => { results := [.lit (.bool false)], args := [d1, d2, d3] }
  | _ => none }
def PagerPlaysWrongFalsely : Prop := pagerPlaysRow.holds Tryz.pinned (OpenSpec.ofChange pagerPlaysWrong)

/-- 'lodestonelaw20.BlobFull': WHATEVER THE INPUT: true; the input reads as it did. -/
def blobFullSpec : ChangeSpec := { name := "blobFull", fn := fun _ => fun
  | [d1, d2, d3] => { results := [.lit (.bool true)], args := [d1, d2, d3] }
  | _ => none }
def blobFullRow : OpenClaim := { program := "ytimpjlnbbdfehaagreatdoor", sum := "43d595b26e802f7a396c7e983690b16ca503d60daabdeec6de706a555c141596", func := "lodestone/lodestonelaw20.BlobFull", spec := "blobFull", inPlace := ["internal/abi.NoEscape", "internal/bytealg.MakeNoZero", "internal/bytealg.IndexByteString", "internal/bytealg.IndexString"], unfollowed := true, recurses := true, named := ["lodestone/sha.salts", "unicode/utf8.first", "unicode/utf8.acceptRanges", "internal/bytealg.MaxLen"], plainKeys := false, apart := false, laid := [("lodestone/sha.salts", laid_lodestone_sha_salts), ("unicode/utf8.acceptRanges", laid_unicode_utf8_acceptRanges), ("unicode/utf8.first", laid_unicode_utf8_first)] }
def BlobFullSaid : Prop := blobFullRow.holds Tryz.pinned (OpenSpec.ofChange blobFullSpec)

/-- ITS FALSE NEIGHBOUR: 'it returns false'. Refute it at one input. -/
def blobFullWrong : ChangeSpec := { name := "blobFull", fn := fun _ => fun
  | [d1, d2, d3] => { results := [.lit (.bool false)], args := [d1, d2, d3] }
  | _ => none }
def BlobFullWrongFalsely : Prop := blobFullRow.holds Tryz.pinned (OpenSpec.ofChange blobFullWrong)

/-- 'lodestonelaw18.TreeInput': WHATEVER THE INPUT: true; the input reads as it did. -/
def treeInputSpec : ChangeSpec := { name := "treeInput", fn := fun _ => fun
  | [d1, d2, d3] => { results := [.lit (.bool true)], args := [d1, d2, d3] }
  | _ => none }
def treeInputRow : OpenClaim := { program := "ytimpjlnbbdfehaagreatdoor", sum := "43d595b26e802f7a396c7e983690b16ca503d60daabdeec6de706a555c141596", func := "lodestone/lodestonelaw18.TreeInput", spec := "treeInput", inPlace := ["internal/abi.NoEscape", "internal/bytealg.MakeNoZero", "internal/bytealg.IndexByteString", "internal/bytealg.IndexString", "slices.overlaps[lodestone/api.Entry]"], unfollowed := true, recurses := true, named := ["lodestone/sha.salts", "unicode/utf8.first", "unicode/utf8.acceptRanges", "internal/bytealg.MaxLen"], plainKeys := false, apart := false, laid := [("lodestone/sha.salts", laid_lodestone_sha_salts), ("unicode/utf8.acceptRanges", laid_unicode_utf8_acceptRanges), ("unicode/utf8.first", laid_unicode_utf8_first)] }
def TreeInputSaid : Prop := treeInputRow.holds Tryz.pinned (OpenSpec.ofChange treeInputSpec)

/-- ITS FALSE NEIGHBOUR: 'it returns false'. Refute it at one input. -/
def treeInputWrong : ChangeSpec := { name := "treeInput", fn := fun _ => fun
  | [d1, d2, d3] => { results := [.lit (.bool false)], args := [d1, d2, d3] }
  | _ => none }
def TreeInputWrongFalsely : Prop := treeInputRow.holds Tryz.pinned (OpenSpec.ofChange treeInputWrong)

/-- 'lodestonelaw19.CursorRanges': WHATEVER THE INPUT: true; the input reads as it did. -/
def cursorRangesSpec : ChangeSpec := { name := "cursorRanges", fn := fun _ => fun
  | [d1, d2, d3] => { results := [.lit (.bool true)], args := [d1, d2, d3] }
  | _ => none }
def cursorRangesRow : OpenClaim := { program := "ytimpjlnbbdfehaagreatdoor", sum := "43d595b26e802f7a396c7e983690b16ca503d60daabdeec6de706a555c141596", func := "lodestone/lodestonelaw19.CursorRanges", spec := "cursorRanges", inPlace := ["internal/abi.NoEscape", "internal/bytealg.MakeNoZero", "internal/bytealg.IndexByteString", "internal/bytealg.IndexString", "slices.overlaps[lodestone/api.Entry]"], unfollowed := true, recurses := true, named := ["lodestone/sha.salts", "unicode/utf8.first", "unicode/utf8.acceptRanges", "internal/bytealg.MaxLen"], plainKeys := false, apart := false, laid := [("lodestone/sha.salts", laid_lodestone_sha_salts), ("unicode/utf8.acceptRanges", laid_unicode_utf8_acceptRanges), ("unicode/utf8.first", laid_unicode_utf8_first)] }
def CursorRangesSaid : Prop := cursorRangesRow.holds Tryz.pinned (OpenSpec.ofChange cursorRangesSpec)

/-- ITS FALSE NEIGHBOUR: 'it returns false'. Refute it at one input. -/
def cursorRangesWrong : ChangeSpec := { name := "cursorRanges", fn := fun _ => fun
  | [d1, d2, d3] => { results := [.lit (.bool false)], args := [d1, d2, d3] }
  | _ => none }
def CursorRangesWrongFalsely : Prop := cursorRangesRow.holds Tryz.pinned (OpenSpec.ofChange cursorRangesWrong)

/-- 'lodestonelaw18.TreeGrows': WHATEVER THE INPUT: true; the input reads as it did. -/
def treeGrowsSpec : ChangeSpec := { name := "treeGrows", fn := fun _ => fun
  | [d1, d2] => { results := [.lit (.bool true)], args := [d1, d2] }
  | _ => none }
def treeGrowsRow : OpenClaim := { program := "ytimpjlnbbdfehaagreatdoor", sum := "43d595b26e802f7a396c7e983690b16ca503d60daabdeec6de706a555c141596", func := "lodestone/lodestonelaw18.TreeGrows", spec := "treeGrows", inPlace := ["internal/abi.NoEscape", "internal/bytealg.MakeNoZero", "internal/bytealg.IndexByteString", "internal/bytealg.IndexString", "slices.overlaps[lodestone/api.Entry]"], unfollowed := true, recurses := true, named := ["lodestone/sha.salts", "unicode/utf8.first", "unicode/utf8.acceptRanges", "internal/bytealg.MaxLen"], plainKeys := false, apart := false, laid := [("lodestone/sha.salts", laid_lodestone_sha_salts), ("unicode/utf8.acceptRanges", laid_unicode_utf8_acceptRanges), ("unicode/utf8.first", laid_unicode_utf8_first)] }
def TreeGrowsSaid : Prop := treeGrowsRow.holds Tryz.pinned (OpenSpec.ofChange treeGrowsSpec)

/-- ITS FALSE NEIGHBOUR: 'it returns false'. Refute it at one input. -/
def treeGrowsWrong : ChangeSpec := { name := "treeGrows", fn := fun _ => fun
  | [d1, d2] => { results := [.lit (.bool false)], args := [d1, d2] }
  | _ => none }
def TreeGrowsWrongFalsely : Prop := treeGrowsRow.holds Tryz.pinned (OpenSpec.ofChange treeGrowsWrong)

/-- 'lodestonelaw18.TreeKeeps': WHATEVER THE INPUT: true; the input reads as it did. -/
def treeKeepsSpec : ChangeSpec := { name := "treeKeeps", fn := fun _ => fun
  | [d1, d2] => { results := [.lit (.bool true)], args := [d1, d2] }
  | _ => none }
def treeKeepsRow : OpenClaim := { program := "ytimpjlnbbdfehaagreatdoor", sum := "43d595b26e802f7a396c7e983690b16ca503d60daabdeec6de706a555c141596", func := "lodestone/lodestonelaw18.TreeKeeps", spec := "treeKeeps", inPlace := ["internal/abi.NoEscape", "internal/bytealg.MakeNoZero", "internal/bytealg.IndexByteString", "internal/bytealg.IndexString", "slices.overlaps[lodestone/api.Entry]"], unfollowed := true, recurses := true, named := ["lodestone/sha.salts", "unicode/utf8.first", "unicode/utf8.acceptRanges", "internal/bytealg.MaxLen"], plainKeys := false, apart := false, laid := [("lodestone/sha.salts", laid_lodestone_sha_salts), ("unicode/utf8.acceptRanges", laid_unicode_utf8_acceptRanges), ("unicode/utf8.first", laid_unicode_utf8_first)] }
def TreeKeepsSaid : Prop := treeKeepsRow.holds Tryz.pinned (OpenSpec.ofChange treeKeepsSpec)

/-- ITS FALSE NEIGHBOUR: 'it returns false'. Refute it at one input. -/
def treeKeepsWrong : ChangeSpec := { name := "treeKeeps", fn := fun _ => fun
  | [d1, d2] => { results := [.lit (.bool false)], args := [d1, d2] }
  | _ => none }
def TreeKeepsWrongFalsely : Prop := treeKeepsRow.holds Tryz.pinned (OpenSpec.ofChange treeKeepsWrong)

/-- 'lodestonelaw18.TreeAgain': WHATEVER THE INPUT: true; the input reads as it did. -/
def treeAgainSpec : ChangeSpec := { name := "treeAgain", fn := fun _ => fun
  | [d1, d2] => { results := [.lit (.bool true)], args := [d1, d2] }
  | _ => none }
def treeAgainRow : OpenClaim := { program := "ytimpjlnbbdfehaagreatdoor", sum := "43d595b26e802f7a396c7e983690b16ca503d60daabdeec6de706a555c141596", func := "lodestone/lodestonelaw18.TreeAgain", spec := "treeAgain", inPlace := ["internal/abi.NoEscape", "internal/bytealg.MakeNoZero", "internal/bytealg.IndexByteString", "internal/bytealg.IndexString", "slices.overlaps[lodestone/api.Entry]"], unfollowed := true, recurses := true, named := ["lodestone/sha.salts", "unicode/utf8.first", "unicode/utf8.acceptRanges", "internal/bytealg.MaxLen"], plainKeys := false, apart := false, laid := [("lodestone/sha.salts", laid_lodestone_sha_salts), ("unicode/utf8.acceptRanges", laid_unicode_utf8_acceptRanges), ("unicode/utf8.first", laid_unicode_utf8_first)] }
def TreeAgainSaid : Prop := treeAgainRow.holds Tryz.pinned (OpenSpec.ofChange treeAgainSpec)

/-- ITS FALSE NEIGHBOUR: 'it returns false'. Refute it at one input. -/
def treeAgainWrong : ChangeSpec := { name := "treeAgain", fn := fun _ => fun
  | [d1, d2] => { results := [.lit (.bool false)], args := [d1, d2] }
  | _ => none }
def TreeAgainWrongFalsely : Prop := treeAgainRow.holds Tryz.pinned (OpenSpec.ofChange treeAgainWrong)

/-- 'lodestonelaw18.TreePages': WHATEVER THE INPUT: true; the input reads as it did. -/
def treePagesSpec : ChangeSpec := { name := "treePages", fn := fun _ => fun
  | [d] => { results := [.lit (.bool true)], args := [d] }
  | _ => none }
def treePagesRow : OpenClaim := { program := "ytimpjlnbbdfehaagreatdoor", sum := "43d595b26e802f7a396c7e983690b16ca503d60daabdeec6de706a555c141596", func := "lodestone/lodestonelaw18.TreePages", spec := "treePages", inPlace := ["internal/abi.NoEscape", "internal/bytealg.MakeNoZero", "internal/bytealg.IndexByteString", "internal/bytealg.IndexString", "slices.overlaps[lodestone/api.Entry]"], unfollowed := true, recurses := true, named := ["lodestone/sha.salts", "unicode/utf8.first", "unicode/utf8.acceptRanges", "internal/bytealg.MaxLen"], plainKeys := false, apart := false, laid := [("lodestone/sha.salts", laid_lodestone_sha_salts), ("unicode/utf8.acceptRanges", laid_unicode_utf8_acceptRanges), ("unicode/utf8.first", laid_unicode_utf8_first)] }
def TreePagesSaid : Prop := treePagesRow.holds Tryz.pinned (OpenSpec.ofChange treePagesSpec)

/-- ITS FALSE NEIGHBOUR: 'it returns false'. Refute it at one input. -/
def treePagesWrong : ChangeSpec := { name := "treePages", fn := fun _ => fun
  | [d] => { results := [.lit (.bool false)], args := [d] }
  | _ => none }
def TreePagesWrongFalsely : Prop := treePagesRow.holds Tryz.pinned (OpenSpec.ofChange treePagesWrong)

/-- 'lodestonelaw19.CursorNexts': WHATEVER THE INPUT: true; the input reads as it did. -/
def cursorNextsSpec : ChangeSpec := { name := "cursorNexts", fn := fun _ => fun
  | [d1, d2] => { results := [.lit (.bool true)], args := [d1, d2] }
  | _ => none }
def cursorNextsRow : OpenClaim := { program := "ytimpjlnbbdfehaagreatdoor", sum := "43d595b26e802f7a396c7e983690b16ca503d60daabdeec6de706a555c141596", func := "lodestone/lodestonelaw19.CursorNexts", spec := "cursorNexts", inPlace := ["internal/abi.NoEscape", "internal/bytealg.MakeNoZero", "internal/bytealg.IndexByteString", "internal/bytealg.IndexString", "slices.overlaps[lodestone/api.Entry]"], unfollowed := true, recurses := true, named := ["lodestone/sha.salts", "unicode/utf8.first", "unicode/utf8.acceptRanges", "internal/bytealg.MaxLen"], plainKeys := false, apart := false, laid := [("lodestone/sha.salts", laid_lodestone_sha_salts), ("unicode/utf8.acceptRanges", laid_unicode_utf8_acceptRanges), ("unicode/utf8.first", laid_unicode_utf8_first)] }
def CursorNextsSaid : Prop := cursorNextsRow.holds Tryz.pinned (OpenSpec.ofChange cursorNextsSpec)

/-- ITS FALSE NEIGHBOUR: 'it returns false'. Refute it at one input. -/
def cursorNextsWrong : ChangeSpec := { name := "cursorNexts", fn := fun _ => fun
  | [d1, d2] => { results := [.lit (.bool false)], args := [d1, d2] }
  | _ => none }
def CursorNextsWrongFalsely : Prop := cursorNextsRow.holds Tryz.pinned (OpenSpec.ofChange cursorNextsWrong)

/- THE SECOND FORM. 'bulk': how many values and letters a reading holds, each counted each time it is reached (what is shared counts as often as it is met; a slice's spare places count too). A statement '..UptoSaid' is the law's where the arguments, and the package variables that the reading takes, are together of bulk at most 1048576: NARROWER than '..Said'. Prove '..Said' where nothing that the law and all that it calls make is longer than what came in: it says more and counts as full. Else prove '..UptoSaid'. A law counts once. -/
mutual
def uptoBulk {H : Type} : DataW H → Nat
  | .lit (.string bytes) => bytes.length + 1
  | .lit _ => 1
  | .nil => 1
  | .ptr d => uptoBulk d + 1
  | .slice elems spare => uptoBulkAll elems + uptoBulkAll spare + 1
  | .agg parts => uptoBulkAll parts + 1
  | .iface _ d => uptoBulk d + 1
  | .map entries => uptoBulkEntries entries + 1
  | .held _ => 1
def uptoBulkAll {H : Type} : List (DataW H) → Nat
  | [] => 0
  | d :: r => uptoBulk d + uptoBulkAll r
def uptoBulkEntries {H : Type} : List (Lit × DataW H) → Nat
  | [] => 0
  | x :: r => uptoBulkEntry x + uptoBulkEntries r
def uptoBulkEntry {H : Type} : Lit × DataW H → Nat
  | (.string bytes, d) => bytes.length + uptoBulk d + 1
  | (_, d) => uptoBulk d + 1
 end
def uptoSmall : (H : Type) → List (DataW H) → Bool := fun _ ds => decide (uptoBulkAll ds ≤ 1048576)
def OpenSpec.upto (s : _root_.Go.ChangeSpec) : _root_.Go.OpenSpec := { _root_.Go.OpenSpec.ofChange s with cond := some uptoSmall }

/-- 'lodestonelaw16.PagerLays', WHERE WHAT IT READS IS OF BULK AT MOST 1048576: true; the input reads as it did. -/
def pagerLaysUptoRow : OpenClaim := { program := "ytimpjlnbbdfehaagreatdoor", sum := "43d595b26e802f7a396c7e983690b16ca503d60daabdeec6de706a555c141596", func := "lodestone/lodestonelaw16.PagerLays", spec := "pagerLays", inPlace := ["internal/abi.NoEscape", "internal/bytealg.MakeNoZero", "internal/bytealg.IndexByteString", "internal/bytealg.IndexString"], named := ["lodestone/sha.salts", "unicode/utf8.first", "unicode/utf8.acceptRanges", "internal/bytealg.MaxLen"], plainKeys := false, apart := false, laid := [("lodestone/sha.salts", laid_lodestone_sha_salts), ("unicode/utf8.acceptRanges", laid_unicode_utf8_acceptRanges), ("unicode/utf8.first", laid_unicode_utf8_first)], narrowed := true }
def PagerLaysUptoSaid : Prop := pagerLaysUptoRow.holds Tryz.pinned (OpenSpec.upto pagerLaysSpec)

/-- 'lodestonelaw16.PagerHeads', WHERE WHAT IT READS IS OF BULK AT MOST 1048576: true; the input reads as it did. -/
def pagerHeadsUptoRow : OpenClaim := { program := "ytimpjlnbbdfehaagreatdoor", sum := "43d595b26e802f7a396c7e983690b16ca503d60daabdeec6de706a555c141596", func := "lodestone/lodestonelaw16.PagerHeads", spec := "pagerHeads", inPlace := ["internal/abi.NoEscape", "internal/bytealg.MakeNoZero", "internal/bytealg.IndexByteString", "internal/bytealg.IndexString"], named := ["lodestone/sha.salts", "unicode/utf8.first", "unicode/utf8.acceptRanges", "internal/bytealg.MaxLen"], plainKeys := false, apart := false, laid := [("lodestone/sha.salts", laid_lodestone_sha_salts), ("unicode/utf8.acceptRanges", laid_unicode_utf8_acceptRanges), ("unicode/utf8.first", laid_unicode_utf8_first)], narrowed := true }
def PagerHeadsUptoSaid : Prop := pagerHeadsUptoRow.holds Tryz.pinned (OpenSpec.upto pagerHeadsSpec)

/-- 'lodestonelaw16.PagerBent', WHERE WHAT IT READS IS OF BULK AT MOST 1048576: true; the input reads as it did. -/
def pagerBentUptoRow : OpenClaim := { program := "ytimpjlnbbdfehaagreatdoor", sum := "43d595b26e802f7a396c7e983690b16ca503d60daabdeec6de706a555c141596", func := "lodestone/lodestonelaw16.PagerBent", spec := "pagerBent", inPlace := ["internal/abi.NoEscape", "internal/bytealg.MakeNoZero", "internal/bytealg.IndexByteString", "internal/bytealg.IndexString"], named := ["lodestone/sha.salts", "unicode/utf8.first", "unicode/utf8.acceptRanges", "internal/bytealg.MaxLen"], plainKeys := false, apart := false, laid := [("lodestone/sha.salts", laid_lodestone_sha_salts), ("unicode/utf8.acceptRanges", laid_unicode_utf8_acceptRanges), ("unicode/utf8.first", laid_unicode_utf8_first)], narrowed := true }
def PagerBentUptoSaid : Prop := pagerBentUptoRow.holds Tryz.pinned (OpenSpec.upto pagerBentSpec)

/-- 'lodestonelaw16.PagerNone', WHERE WHAT IT READS IS OF BULK AT MOST 1048576: true; the input reads as it did. -/
def pagerNoneUptoRow : OpenClaim := { program := "ytimpjlnbbdfehaagreatdoor", sum := "43d595b26e802f7a396c7e983690b16ca503d60daabdeec6de706a555c141596", func := "lodestone/lodestonelaw16.PagerNone", spec := "pagerNone", inPlace := ["internal/abi.NoEscape", "internal/bytealg.MakeNoZero", "internal/bytealg.IndexByteString", "internal/bytealg.IndexString"], unfollowed := true, recurses := true, named := ["lodestone/sha.salts", "unicode/utf8.first", "unicode/utf8.acceptRanges", "internal/bytealg.MaxLen"], plainKeys := false, apart := false, laid := [("lodestone/sha.salts", laid_lodestone_sha_salts), ("unicode/utf8.acceptRanges", laid_unicode_utf8_acceptRanges), ("unicode/utf8.first", laid_unicode_utf8_first)], narrowed := true }
def PagerNoneUptoSaid : Prop := pagerNoneUptoRow.holds Tryz.pinned (OpenSpec.upto pagerNoneSpec)

/-- 'lodestonelaw16.PagerPlays', WHERE WHAT IT READS IS OF BULK AT MOST 1048576: true; the input reads as it did. -/
def pagerPlaysUptoRow : OpenClaim := { program := "ytimpjlnbbdfehaagreatdoor", sum := "43d595b26e802f7a396c7e983690b16ca503d60daabdeec6de706a555c141596", func := "lodestone/lodestonelaw16.PagerPlays", spec := "pagerPlays", inPlace := ["internal/abi.NoEscape", "internal/bytealg.MakeNoZero", "internal/bytealg.IndexByteString", "internal/bytealg.IndexString"], unfollowed := true, recurses := true, named := ["lodestone/sha.salts", "unicode/utf8.first", "unicode/utf8.acceptRanges", "internal/bytealg.MaxLen"], plainKeys := false, apart := false, laid := [("lodestone/sha.salts", laid_lodestone_sha_salts), ("unicode/utf8.acceptRanges", laid_unicode_utf8_acceptRanges), ("unicode/utf8.first", laid_unicode_utf8_first)], narrowed := true }
def PagerPlaysUptoSaid : Prop := pagerPlaysUptoRow.holds Tryz.pinned (OpenSpec.upto pagerPlaysSpec)

/-- 'lodestonelaw20.BlobFull', WHERE WHAT IT READS IS OF BULK AT MOST 1048576: true; the input reads as it did. -/
def blobFullUptoRow : OpenClaim := { program := "ytimpjlnbbdfehaagreatdoor", sum := "43d595b26e802f7a396c7e983690b16ca503d60daabdeec6de706a555c141596", func := "lodestone/lodestonelaw20.BlobFull", spec := "blobFull", inPlace := ["internal/abi.NoEscape", "internal/bytealg.MakeNoZero", "internal/bytealg.IndexByteString", "internal/bytealg.IndexString"], unfollowed := true, recurses := true, named := ["lodestone/sha.salts", "unicode/utf8.first", "unicode/utf8.acceptRanges", "internal/bytealg.MaxLen"], plainKeys := false, apart := false, laid := [("lodestone/sha.salts", laid_lodestone_sha_salts), ("unicode/utf8.acceptRanges", laid_unicode_utf8_acceptRanges), ("unicode/utf8.first", laid_unicode_utf8_first)], narrowed := true }
def BlobFullUptoSaid : Prop := blobFullUptoRow.holds Tryz.pinned (OpenSpec.upto blobFullSpec)

/-- 'lodestonelaw18.TreeInput', WHERE WHAT IT READS IS OF BULK AT MOST 1048576: true; the input reads as it did. -/
def treeInputUptoRow : OpenClaim := { program := "ytimpjlnbbdfehaagreatdoor", sum := "43d595b26e802f7a396c7e983690b16ca503d60daabdeec6de706a555c141596", func := "lodestone/lodestonelaw18.TreeInput", spec := "treeInput", inPlace := ["internal/abi.NoEscape", "internal/bytealg.MakeNoZero", "internal/bytealg.IndexByteString", "internal/bytealg.IndexString", "slices.overlaps[lodestone/api.Entry]"], unfollowed := true, recurses := true, named := ["lodestone/sha.salts", "unicode/utf8.first", "unicode/utf8.acceptRanges", "internal/bytealg.MaxLen"], plainKeys := false, apart := false, laid := [("lodestone/sha.salts", laid_lodestone_sha_salts), ("unicode/utf8.acceptRanges", laid_unicode_utf8_acceptRanges), ("unicode/utf8.first", laid_unicode_utf8_first)], narrowed := true }
def TreeInputUptoSaid : Prop := treeInputUptoRow.holds Tryz.pinned (OpenSpec.upto treeInputSpec)

/-- 'lodestonelaw19.CursorRanges', WHERE WHAT IT READS IS OF BULK AT MOST 1048576: true; the input reads as it did. -/
def cursorRangesUptoRow : OpenClaim := { program := "ytimpjlnbbdfehaagreatdoor", sum := "43d595b26e802f7a396c7e983690b16ca503d60daabdeec6de706a555c141596", func := "lodestone/lodestonelaw19.CursorRanges", spec := "cursorRanges", inPlace := ["internal/abi.NoEscape", "internal/bytealg.MakeNoZero", "internal/bytealg.IndexByteString", "internal/bytealg.IndexString", "slices.overlaps[lodestone/api.Entry]"], unfollowed := true, recurses := true, named := ["lodestone/sha.salts", "unicode/utf8.first", "unicode/utf8.acceptRanges", "internal/bytealg.MaxLen"], plainKeys := false, apart := false, laid := [("lodestone/sha.salts", laid_lodestone_sha_salts), ("unicode/utf8.acceptRanges", laid_unicode_utf8_acceptRanges), ("unicode/utf8.first", laid_unicode_utf8_first)], narrowed := true }
def CursorRangesUptoSaid : Prop := cursorRangesUptoRow.holds Tryz.pinned (OpenSpec.upto cursorRangesSpec)

/-- 'lodestonelaw18.TreeGrows', WHERE WHAT IT READS IS OF BULK AT MOST 1048576: true; the input reads as it did. -/
def treeGrowsUptoRow : OpenClaim := { program := "ytimpjlnbbdfehaagreatdoor", sum := "43d595b26e802f7a396c7e983690b16ca503d60daabdeec6de706a555c141596", func := "lodestone/lodestonelaw18.TreeGrows", spec := "treeGrows", inPlace := ["internal/abi.NoEscape", "internal/bytealg.MakeNoZero", "internal/bytealg.IndexByteString", "internal/bytealg.IndexString", "slices.overlaps[lodestone/api.Entry]"], unfollowed := true, recurses := true, named := ["lodestone/sha.salts", "unicode/utf8.first", "unicode/utf8.acceptRanges", "internal/bytealg.MaxLen"], plainKeys := false, apart := false, laid := [("lodestone/sha.salts", laid_lodestone_sha_salts), ("unicode/utf8.acceptRanges", laid_unicode_utf8_acceptRanges), ("unicode/utf8.first", laid_unicode_utf8_first)], narrowed := true }
def TreeGrowsUptoSaid : Prop := treeGrowsUptoRow.holds Tryz.pinned (OpenSpec.upto treeGrowsSpec)

/-- 'lodestonelaw18.TreeKeeps', WHERE WHAT IT READS IS OF BULK AT MOST 1048576: true; the input reads as it did. -/
def treeKeepsUptoRow : OpenClaim := { program := "ytimpjlnbbdfehaagreatdoor", sum := "43d595b26e802f7a396c7e983690b16ca503d60daabdeec6de706a555c141596", func := "lodestone/lodestonelaw18.TreeKeeps", spec := "treeKeeps", inPlace := ["internal/abi.NoEscape", "internal/bytealg.MakeNoZero", "internal/bytealg.IndexByteString", "internal/bytealg.IndexString", "slices.overlaps[lodestone/api.Entry]"], unfollowed := true, recurses := true, named := ["lodestone/sha.salts", "unicode/utf8.first", "unicode/utf8.acceptRanges", "internal/bytealg.MaxLen"], plainKeys := false, apart := false, laid := [("lodestone/sha.salts", laid_lodestone_sha_salts), ("unicode/utf8.acceptRanges", laid_unicode_utf8_acceptRanges), ("unicode/utf8.first", laid_unicode_utf8_first)], narrowed := true }
def TreeKeepsUptoSaid : Prop := treeKeepsUptoRow.holds Tryz.pinned (OpenSpec.upto treeKeepsSpec)

/-- 'lodestonelaw18.TreeAgain', WHERE WHAT IT READS IS OF BULK AT MOST 1048576: true; the input reads as it did. -/
def treeAgainUptoRow : OpenClaim := { program := "ytimpjlnbbdfehaagreatdoor", sum := "43d595b26e802f7a396c7e983690b16ca503d60daabdeec6de706a555c141596", func := "lodestone/lodestonelaw18.TreeAgain", spec := "treeAgain", inPlace := ["internal/abi.NoEscape", "internal/bytealg.MakeNoZero", "internal/bytealg.IndexByteString", "internal/bytealg.IndexString", "slices.overlaps[lodestone/api.Entry]"], unfollowed := true, recurses := true, named := ["lodestone/sha.salts", "unicode/utf8.first", "unicode/utf8.acceptRanges", "internal/bytealg.MaxLen"], plainKeys := false, apart := false, laid := [("lodestone/sha.salts", laid_lodestone_sha_salts), ("unicode/utf8.acceptRanges", laid_unicode_utf8_acceptRanges), ("unicode/utf8.first", laid_unicode_utf8_first)], narrowed := true }
def TreeAgainUptoSaid : Prop := treeAgainUptoRow.holds Tryz.pinned (OpenSpec.upto treeAgainSpec)

/-- 'lodestonelaw18.TreePages', WHERE WHAT IT READS IS OF BULK AT MOST 1048576: true; the input reads as it did. -/
def treePagesUptoRow : OpenClaim := { program := "ytimpjlnbbdfehaagreatdoor", sum := "43d595b26e802f7a396c7e983690b16ca503d60daabdeec6de706a555c141596", func := "lodestone/lodestonelaw18.TreePages", spec := "treePages", inPlace := ["internal/abi.NoEscape", "internal/bytealg.MakeNoZero", "internal/bytealg.IndexByteString", "internal/bytealg.IndexString", "slices.overlaps[lodestone/api.Entry]"], unfollowed := true, recurses := true, named := ["lodestone/sha.salts", "unicode/utf8.first", "unicode/utf8.acceptRanges", "internal/bytealg.MaxLen"], plainKeys := false, apart := false, laid := [("lodestone/sha.salts", laid_lodestone_sha_salts), ("unicode/utf8.acceptRanges", laid_unicode_utf8_acceptRanges), ("unicode/utf8.first", laid_unicode_utf8_first)], narrowed := true }
def TreePagesUptoSaid : Prop := treePagesUptoRow.holds Tryz.pinned (OpenSpec.upto treePagesSpec)

/-- 'lodestonelaw19.CursorNexts', WHERE WHAT IT READS IS OF BULK AT MOST 1048576: true; the input reads as it did. -/
def cursorNextsUptoRow : OpenClaim := { program := "ytimpjlnbbdfehaagreatdoor", sum := "43d595b26e802f7a396c7e983690b16ca503d60daabdeec6de706a555c141596", func := "lodestone/lodestonelaw19.CursorNexts", spec := "cursorNexts", inPlace := ["internal/abi.NoEscape", "internal/bytealg.MakeNoZero", "internal/bytealg.IndexByteString", "internal/bytealg.IndexString", "slices.overlaps[lodestone/api.Entry]"], unfollowed := true, recurses := true, named := ["lodestone/sha.salts", "unicode/utf8.first", "unicode/utf8.acceptRanges", "internal/bytealg.MaxLen"], plainKeys := false, apart := false, laid := [("lodestone/sha.salts", laid_lodestone_sha_salts), ("unicode/utf8.acceptRanges", laid_unicode_utf8_acceptRanges), ("unicode/utf8.first", laid_unicode_utf8_first)], narrowed := true }
def CursorNextsUptoSaid : Prop := cursorNextsUptoRow.holds Tryz.pinned (OpenSpec.upto cursorNextsSpec)

end Rows
end Go.Proofs.YtimpjlnbbdfehaaGreatDoor
