/-
  NARROWER THAN 'FOR EVERY INPUT', by the rows' own cells (each row's printed sentence says how): HmacNil: laid · TagTexts: laid · HmacRuns: laid · HmacSums: laid · TagNodes: laid · HmacPieces: laid · HmacKeys: laid · HmacDigests: laid · HmacIs: laid · TagSalts: laid · TagBack: laid · TagWidths: laid · TagUnlike: laid · TagSeeds: laid.
  DERIVED. THE GIVEN ROWS OF THIS SEAT. 14 by the template 'for every input the law returns true; each argument reads behind the call as it read before'; 0 by the template 'total and deterministic' (their statements: YtomninikmcmmcaaDoorTotals.lean).
  GIVEN WITH THE SEED: the statements are not yours to turn. If you find one false, say at which input.
  Laid BY PROGRAM, IN A SANDBOX (cutbox-rows.mjs): the forced cells as the released guide's own fill.sh prints them over the translation a491d8cf57e5f58f… (all of the seat's roots in one cut). By AI agents, Wed Nov 11 2026. No macro, syntax, notation, axiom, sorry.
-/
import Derived.Test.YtomninikmcmmcaaDoorChecked
import GoSem.PinnedTables
import GoSem.Claim
import GoSem.ClaimJoined
import GoSem.ClaimMapViews
import Derived.JoinedTies
import Derived.KernelRfl
namespace Go.Proofs.YtomninikmcmmcaaDoor
/- THE CELL 'sum', in the pinned program and in every row, IS THE sha256 OF THE DUMP (.gsa) THAT YtomninikmcmmcaaDoorProg.lean LOADS. Nothing in Lean hashes anything: it is a label: what it is worth is what the hold of that sum in a sandbox is worth. -/
noncomputable def Tryd.pinned : Pinned := { name := "ytomninikmcmmcaadoor", sum := "a491d8cf57e5f58f92a5d4bfcfa5df3d27327de505ad200f165892a9dd01c231", checked := Tryd.checked }
namespace Rows
def none {H : Type} : Left H := { results := [], args := [] }

/- WHAT THE LISTED PACKAGE-LEVEL VARIABLES READ AS WHEN THE CALL BEGINS. Each datum BY PROGRAM (the guide's laid-datum.mjs) off the statement by which the dump's own 'gosem.cut.vars' lays the variable. In a bare row this is a premise. The card (YtomninikmcmmcaaDoorCards.lean) ties it to the program's text. -/
def laid_paymaster_block_constants {H : Type} : DataW H := .agg [.lit (.int .u32 1116352408), .lit (.int .u32 1899447441), .lit (.int .u32 3049323471), .lit (.int .u32 3921009573), .lit (.int .u32 961987163), .lit (.int .u32 1508970993), .lit (.int .u32 2453635748), .lit (.int .u32 2870763221), .lit (.int .u32 3624381080), .lit (.int .u32 310598401), .lit (.int .u32 607225278), .lit (.int .u32 1426881987), .lit (.int .u32 1925078388), .lit (.int .u32 2162078206), .lit (.int .u32 2614888103), .lit (.int .u32 3248222580), .lit (.int .u32 3835390401), .lit (.int .u32 4022224774), .lit (.int .u32 264347078), .lit (.int .u32 604807628), .lit (.int .u32 770255983), .lit (.int .u32 1249150122), .lit (.int .u32 1555081692), .lit (.int .u32 1996064986), .lit (.int .u32 2554220882), .lit (.int .u32 2821834349), .lit (.int .u32 2952996808), .lit (.int .u32 3210313671), .lit (.int .u32 3336571891), .lit (.int .u32 3584528711), .lit (.int .u32 113926993), .lit (.int .u32 338241895), .lit (.int .u32 666307205), .lit (.int .u32 773529912), .lit (.int .u32 1294757372), .lit (.int .u32 1396182291), .lit (.int .u32 1695183700), .lit (.int .u32 1986661051), .lit (.int .u32 2177026350), .lit (.int .u32 2456956037), .lit (.int .u32 2730485921), .lit (.int .u32 2820302411), .lit (.int .u32 3259730800), .lit (.int .u32 3345764771), .lit (.int .u32 3516065817), .lit (.int .u32 3600352804), .lit (.int .u32 4094571909), .lit (.int .u32 275423344), .lit (.int .u32 430227734), .lit (.int .u32 506948616), .lit (.int .u32 659060556), .lit (.int .u32 883997877), .lit (.int .u32 958139571), .lit (.int .u32 1322822218), .lit (.int .u32 1537002063), .lit (.int .u32 1747873779), .lit (.int .u32 1955562222), .lit (.int .u32 2024104815), .lit (.int .u32 2227730452), .lit (.int .u32 2361852424), .lit (.int .u32 2428436474), .lit (.int .u32 2756734187), .lit (.int .u32 3204031479), .lit (.int .u32 3329325298)]
def laid_unicode_utf8_acceptRanges {H : Type} : DataW H := .agg [.agg [.lit (.int .u8 128), .lit (.int .u8 191)], .agg [.lit (.int .u8 160), .lit (.int .u8 191)], .agg [.lit (.int .u8 128), .lit (.int .u8 159)], .agg [.lit (.int .u8 144), .lit (.int .u8 191)], .agg [.lit (.int .u8 128), .lit (.int .u8 143)], .agg [.lit (.int .u8 0), .lit (.int .u8 0)], .agg [.lit (.int .u8 0), .lit (.int .u8 0)], .agg [.lit (.int .u8 0), .lit (.int .u8 0)], .agg [.lit (.int .u8 0), .lit (.int .u8 0)], .agg [.lit (.int .u8 0), .lit (.int .u8 0)], .agg [.lit (.int .u8 0), .lit (.int .u8 0)], .agg [.lit (.int .u8 0), .lit (.int .u8 0)], .agg [.lit (.int .u8 0), .lit (.int .u8 0)], .agg [.lit (.int .u8 0), .lit (.int .u8 0)], .agg [.lit (.int .u8 0), .lit (.int .u8 0)], .agg [.lit (.int .u8 0), .lit (.int .u8 0)]]
/-- One of Go's own tables, pinned by name: the form's constant. -/
def laid_unicode_utf8_first : DataW Unit := Go.Pinned.utf8First

/-- 'paymasterlaw06.HmacNil': WHATEVER THE INPUT: true; the input reads as it did. -/
def hmacNilSpec : ChangeSpec := { name := "hmacNil", fn := fun _ => fun
  | [d] => { results := [.lit (.bool true)], args := [d] }
  | _ => none }
def hmacNilRow : OpenClaim := { program := "ytomninikmcmmcaadoor", sum := "a491d8cf57e5f58f92a5d4bfcfa5df3d27327de505ad200f165892a9dd01c231", func := "paymaster/paymasterlaw06.HmacNil", spec := "hmacNil", inPlace := ["internal/abi.NoEscape"], unfollowed := true, recurses := true, named := ["paymaster/block.constants"], apart := false, laid := [("paymaster/block.constants", laid_paymaster_block_constants)] }
def HmacNilSaid : Prop := hmacNilRow.holds Tryd.pinned (OpenSpec.ofChange hmacNilSpec)

/-- ITS FALSE NEIGHBOUR: 'it returns false'. Refute it at one input. -/
def hmacNilWrong : ChangeSpec := { name := "hmacNil", fn := fun _ => fun
  | [d] => { results := [.lit (.bool false)], args := [d] }
  | _ => none }
def HmacNilWrongFalsely : Prop := hmacNilRow.holds Tryd.pinned (OpenSpec.ofChange hmacNilWrong)

/-- 'paymasterlaw07.TagTexts': WHATEVER THE INPUT: true; the input reads as it did. -/
def tagTextsSpec : ChangeSpec := { name := "tagTexts", fn := fun _ => fun
  | [d1, d2, d3] => { results := [.lit (.bool true)], args := [d1, d2, d3] }
  | _ => none }
def tagTextsRow : OpenClaim := { program := "ytomninikmcmmcaadoor", sum := "a491d8cf57e5f58f92a5d4bfcfa5df3d27327de505ad200f165892a9dd01c231", func := "paymaster/paymasterlaw07.TagTexts", spec := "tagTexts", inPlace := ["internal/bytealg.IndexByteString", "internal/bytealg.IndexString"], named := ["unicode/utf8.first", "unicode/utf8.acceptRanges", "internal/bytealg.MaxLen"], apart := false, laid := [("unicode/utf8.acceptRanges", laid_unicode_utf8_acceptRanges), ("unicode/utf8.first", laid_unicode_utf8_first)] }
def TagTextsSaid : Prop := tagTextsRow.holds Tryd.pinned (OpenSpec.ofChange tagTextsSpec)

/-- ITS FALSE NEIGHBOUR: 'it returns false'. Refute it at one input. -/
def tagTextsWrong : ChangeSpec := { name := "tagTexts", fn := fun _ => fun
  | [d1, d2, d3] => { results := [.lit (.bool false)], args := [d1, d2, d3] }
  | _ => none }
def TagTextsWrongFalsely : Prop := tagTextsRow.holds Tryd.pinned (OpenSpec.ofChange tagTextsWrong)

/-- 'paymasterlaw06.HmacRuns': WHATEVER THE INPUT: true; the input reads as it did. -/
def hmacRunsSpec : ChangeSpec := { name := "hmacRuns", fn := fun _ => fun
  | [d1, d2, d3] => { results := [.lit (.bool true)], args := [d1, d2, d3] }
  | _ => none }
def hmacRunsRow : OpenClaim := { program := "ytomninikmcmmcaadoor", sum := "a491d8cf57e5f58f92a5d4bfcfa5df3d27327de505ad200f165892a9dd01c231", func := "paymaster/paymasterlaw06.HmacRuns", spec := "hmacRuns", inPlace := ["internal/abi.NoEscape", "internal/bytealg.MakeNoZero"], unfollowed := true, recurses := true, named := ["paymaster/block.constants"], apart := false, laid := [("paymaster/block.constants", laid_paymaster_block_constants)] }
def HmacRunsSaid : Prop := hmacRunsRow.holds Tryd.pinned (OpenSpec.ofChange hmacRunsSpec)

/-- ITS FALSE NEIGHBOUR: 'it returns false'. Refute it at one input. -/
def hmacRunsWrong : ChangeSpec := { name := "hmacRuns", fn := fun _ => fun
  | [d1, d2, d3] => { results := [.lit (.bool false)], args := [d1, d2, d3] }
  | _ => none }
def HmacRunsWrongFalsely : Prop := hmacRunsRow.holds Tryd.pinned (OpenSpec.ofChange hmacRunsWrong)

/-- 'paymasterlaw06.HmacSums': WHATEVER THE INPUT: true; the input reads as it did. -/
def hmacSumsSpec : ChangeSpec := { name := "hmacSums", fn := fun _ => fun
  | [d1, d2, d3, d4] => { results := [.lit (.bool true)], args := [d1, d2, d3, d4] }
  | _ => none }
def hmacSumsRow : OpenClaim := { program := "ytomninikmcmmcaadoor", sum := "a491d8cf57e5f58f92a5d4bfcfa5df3d27327de505ad200f165892a9dd01c231", func := "paymaster/paymasterlaw06.HmacSums", spec := "hmacSums", inPlace := ["internal/abi.NoEscape", "internal/bytealg.MakeNoZero"], unfollowed := true, recurses := true, named := ["paymaster/block.constants"], apart := false, laid := [("paymaster/block.constants", laid_paymaster_block_constants)] }
def HmacSumsSaid : Prop := hmacSumsRow.holds Tryd.pinned (OpenSpec.ofChange hmacSumsSpec)

/-- ITS FALSE NEIGHBOUR: 'it returns false'. Refute it at one input. -/
def hmacSumsWrong : ChangeSpec := { name := "hmacSums", fn := fun _ => fun
  | [d1, d2, d3, d4] => { results := [.lit (.bool false)], args := [d1, d2, d3, d4] }
  | _ => none }
def HmacSumsWrongFalsely : Prop := hmacSumsRow.holds Tryd.pinned (OpenSpec.ofChange hmacSumsWrong)

/-- 'paymasterlaw07.TagNodes': WHATEVER THE INPUT: true; the input reads as it did. -/
def tagNodesSpec : ChangeSpec := { name := "tagNodes", fn := fun _ => fun
  | [d1, d2, d3, d4, d5] => { results := [.lit (.bool true)], args := [d1, d2, d3, d4, d5] }
  | _ => none }
def tagNodesRow : OpenClaim := { program := "ytomninikmcmmcaadoor", sum := "a491d8cf57e5f58f92a5d4bfcfa5df3d27327de505ad200f165892a9dd01c231", func := "paymaster/paymasterlaw07.TagNodes", spec := "tagNodes", inPlace := ["internal/abi.NoEscape", "internal/bytealg.IndexByteString", "internal/bytealg.IndexString"], unfollowed := true, recurses := true, named := ["paymaster/block.constants", "unicode/utf8.first", "unicode/utf8.acceptRanges", "internal/bytealg.MaxLen"], apart := false, laid := [("paymaster/block.constants", laid_paymaster_block_constants), ("unicode/utf8.acceptRanges", laid_unicode_utf8_acceptRanges), ("unicode/utf8.first", laid_unicode_utf8_first)] }
def TagNodesSaid : Prop := tagNodesRow.holds Tryd.pinned (OpenSpec.ofChange tagNodesSpec)

/-- ITS FALSE NEIGHBOUR: 'it returns false'. Refute it at one input. -/
def tagNodesWrong : ChangeSpec := { name := "tagNodes", fn := fun _ => fun
  | [d1, d2, d3, d4, d5] => { results := [.lit (.bool false)], args := [d1, d2, d3, d4, d5] }
  | _ => none }
def TagNodesWrongFalsely : Prop := tagNodesRow.holds Tryd.pinned (OpenSpec.ofChange tagNodesWrong)

/-- 'paymasterlaw06.HmacPieces': WHATEVER THE INPUT: true; the input reads as it did. -/
def hmacPiecesSpec : ChangeSpec := { name := "hmacPieces", fn := fun _ => fun
  | [d1, d2] => { results := [.lit (.bool true)], args := [d1, d2] }
  | _ => none }
def hmacPiecesRow : OpenClaim := { program := "ytomninikmcmmcaadoor", sum := "a491d8cf57e5f58f92a5d4bfcfa5df3d27327de505ad200f165892a9dd01c231", func := "paymaster/paymasterlaw06.HmacPieces", spec := "hmacPieces", inPlace := ["internal/abi.NoEscape", "internal/bytealg.MakeNoZero"], unfollowed := true, recurses := true, named := ["paymaster/block.constants"], apart := false, laid := [("paymaster/block.constants", laid_paymaster_block_constants)] }
def HmacPiecesSaid : Prop := hmacPiecesRow.holds Tryd.pinned (OpenSpec.ofChange hmacPiecesSpec)

/-- ITS FALSE NEIGHBOUR: 'it returns false'. Refute it at one input. -/
def hmacPiecesWrong : ChangeSpec := { name := "hmacPieces", fn := fun _ => fun
  | [d1, d2] => { results := [.lit (.bool false)], args := [d1, d2] }
  | _ => none }
def HmacPiecesWrongFalsely : Prop := hmacPiecesRow.holds Tryd.pinned (OpenSpec.ofChange hmacPiecesWrong)

/-- 'paymasterlaw06.HmacKeys': WHATEVER THE INPUT: true; the input reads as it did. -/
def hmacKeysSpec : ChangeSpec := { name := "hmacKeys", fn := fun _ => fun
  | [d1, d2, d3] => { results := [.lit (.bool true)], args := [d1, d2, d3] }
  | _ => none }
def hmacKeysRow : OpenClaim := { program := "ytomninikmcmmcaadoor", sum := "a491d8cf57e5f58f92a5d4bfcfa5df3d27327de505ad200f165892a9dd01c231", func := "paymaster/paymasterlaw06.HmacKeys", spec := "hmacKeys", inPlace := ["internal/abi.NoEscape", "internal/bytealg.MakeNoZero"], unfollowed := true, recurses := true, named := ["paymaster/block.constants"], apart := false, laid := [("paymaster/block.constants", laid_paymaster_block_constants)] }
def HmacKeysSaid : Prop := hmacKeysRow.holds Tryd.pinned (OpenSpec.ofChange hmacKeysSpec)

/-- ITS FALSE NEIGHBOUR: 'it returns false'. Refute it at one input. -/
def hmacKeysWrong : ChangeSpec := { name := "hmacKeys", fn := fun _ => fun
  | [d1, d2, d3] => { results := [.lit (.bool false)], args := [d1, d2, d3] }
  | _ => none }
def HmacKeysWrongFalsely : Prop := hmacKeysRow.holds Tryd.pinned (OpenSpec.ofChange hmacKeysWrong)

/-- 'paymasterlaw06.HmacDigests': WHATEVER THE INPUT: true; the input reads as it did. -/
def hmacDigestsSpec : ChangeSpec := { name := "hmacDigests", fn := fun _ => fun
  | [d1, d2, d3] => { results := [.lit (.bool true)], args := [d1, d2, d3] }
  | _ => none }
def hmacDigestsRow : OpenClaim := { program := "ytomninikmcmmcaadoor", sum := "a491d8cf57e5f58f92a5d4bfcfa5df3d27327de505ad200f165892a9dd01c231", func := "paymaster/paymasterlaw06.HmacDigests", spec := "hmacDigests", inPlace := ["internal/abi.NoEscape", "internal/bytealg.MakeNoZero"], unfollowed := true, recurses := true, named := ["paymaster/block.constants"], apart := false, laid := [("paymaster/block.constants", laid_paymaster_block_constants)] }
def HmacDigestsSaid : Prop := hmacDigestsRow.holds Tryd.pinned (OpenSpec.ofChange hmacDigestsSpec)

/-- ITS FALSE NEIGHBOUR: 'it returns false'. Refute it at one input. -/
def hmacDigestsWrong : ChangeSpec := { name := "hmacDigests", fn := fun _ => fun
  | [d1, d2, d3] => { results := [.lit (.bool false)], args := [d1, d2, d3] }
  | _ => none }
def HmacDigestsWrongFalsely : Prop := hmacDigestsRow.holds Tryd.pinned (OpenSpec.ofChange hmacDigestsWrong)

/-- 'paymasterlaw06.HmacIs': WHATEVER THE INPUT: true; the input reads as it did. -/
def hmacIsSpec : ChangeSpec := { name := "hmacIs", fn := fun _ => fun
  | [d1, d2, d3, d4] => { results := [.lit (.bool true)], args := [d1, d2, d3, d4] }
  | _ => none }
def hmacIsRow : OpenClaim := { program := "ytomninikmcmmcaadoor", sum := "a491d8cf57e5f58f92a5d4bfcfa5df3d27327de505ad200f165892a9dd01c231", func := "paymaster/paymasterlaw06.HmacIs", spec := "hmacIs", inPlace := ["internal/abi.NoEscape", "internal/bytealg.MakeNoZero"], unfollowed := true, recurses := true, named := ["paymaster/block.constants"], apart := false, laid := [("paymaster/block.constants", laid_paymaster_block_constants)] }
def HmacIsSaid : Prop := hmacIsRow.holds Tryd.pinned (OpenSpec.ofChange hmacIsSpec)

/-- ITS FALSE NEIGHBOUR: 'it returns false'. Refute it at one input. -/
def hmacIsWrong : ChangeSpec := { name := "hmacIs", fn := fun _ => fun
  | [d1, d2, d3, d4] => { results := [.lit (.bool false)], args := [d1, d2, d3, d4] }
  | _ => none }
def HmacIsWrongFalsely : Prop := hmacIsRow.holds Tryd.pinned (OpenSpec.ofChange hmacIsWrong)

/-- 'paymasterlaw07.TagSalts': WHATEVER THE INPUT: true; the input reads as it did. -/
def tagSaltsSpec : ChangeSpec := { name := "tagSalts", fn := fun _ => fun
  | [d1, d2, d3, d4] => { results := [.lit (.bool true)], args := [d1, d2, d3, d4] }
  | _ => none }
def tagSaltsRow : OpenClaim := { program := "ytomninikmcmmcaadoor", sum := "a491d8cf57e5f58f92a5d4bfcfa5df3d27327de505ad200f165892a9dd01c231", func := "paymaster/paymasterlaw07.TagSalts", spec := "tagSalts", inPlace := ["internal/abi.NoEscape", "internal/bytealg.MakeNoZero"], unfollowed := true, recurses := true, named := ["paymaster/block.constants"], apart := false, laid := [("paymaster/block.constants", laid_paymaster_block_constants)] }
def TagSaltsSaid : Prop := tagSaltsRow.holds Tryd.pinned (OpenSpec.ofChange tagSaltsSpec)

/-- ITS FALSE NEIGHBOUR: 'it returns false'. Refute it at one input. -/
def tagSaltsWrong : ChangeSpec := { name := "tagSalts", fn := fun _ => fun
  | [d1, d2, d3, d4] => { results := [.lit (.bool false)], args := [d1, d2, d3, d4] }
  | _ => none }
def TagSaltsWrongFalsely : Prop := tagSaltsRow.holds Tryd.pinned (OpenSpec.ofChange tagSaltsWrong)

/-- 'paymasterlaw07.TagBack': WHATEVER THE INPUT: true; the input reads as it did. -/
def tagBackSpec : ChangeSpec := { name := "tagBack", fn := fun _ => fun
  | [d1, d2] => { results := [.lit (.bool true)], args := [d1, d2] }
  | _ => none }
def tagBackRow : OpenClaim := { program := "ytomninikmcmmcaadoor", sum := "a491d8cf57e5f58f92a5d4bfcfa5df3d27327de505ad200f165892a9dd01c231", func := "paymaster/paymasterlaw07.TagBack", spec := "tagBack", inPlace := ["internal/bytealg.IndexByteString", "internal/bytealg.IndexString", "internal/abi.NoEscape", "internal/bytealg.MakeNoZero"], unfollowed := true, recurses := true, named := ["unicode/utf8.first", "unicode/utf8.acceptRanges", "paymaster/block.constants", "internal/bytealg.MaxLen"], apart := false, laid := [("paymaster/block.constants", laid_paymaster_block_constants), ("unicode/utf8.acceptRanges", laid_unicode_utf8_acceptRanges), ("unicode/utf8.first", laid_unicode_utf8_first)] }
def TagBackSaid : Prop := tagBackRow.holds Tryd.pinned (OpenSpec.ofChange tagBackSpec)

/-- ITS FALSE NEIGHBOUR: 'it returns false'. Refute it at one input. -/
def tagBackWrong : ChangeSpec := { name := "tagBack", fn := fun _ => fun
  | [d1, d2] => { results := [.lit (.bool false)], args := [d1, d2] }
  | _ => none }
def TagBackWrongFalsely : Prop := tagBackRow.holds Tryd.pinned (OpenSpec.ofChange tagBackWrong)

/-- 'paymasterlaw07.TagWidths': WHATEVER THE INPUT: true; the input reads as it did. -/
def tagWidthsSpec : ChangeSpec := { name := "tagWidths", fn := fun _ => fun
  | [d1, d2, d3, d4] => { results := [.lit (.bool true)], args := [d1, d2, d3, d4] }
  | _ => none }
def tagWidthsRow : OpenClaim := { program := "ytomninikmcmmcaadoor", sum := "a491d8cf57e5f58f92a5d4bfcfa5df3d27327de505ad200f165892a9dd01c231", func := "paymaster/paymasterlaw07.TagWidths", spec := "tagWidths", inPlace := ["internal/bytealg.IndexByteString", "internal/bytealg.IndexString", "internal/abi.NoEscape", "internal/bytealg.MakeNoZero"], unfollowed := true, recurses := true, named := ["unicode/utf8.first", "unicode/utf8.acceptRanges", "paymaster/block.constants", "internal/bytealg.MaxLen"], apart := false, laid := [("paymaster/block.constants", laid_paymaster_block_constants), ("unicode/utf8.acceptRanges", laid_unicode_utf8_acceptRanges), ("unicode/utf8.first", laid_unicode_utf8_first)] }
def TagWidthsSaid : Prop := tagWidthsRow.holds Tryd.pinned (OpenSpec.ofChange tagWidthsSpec)

/-- ITS FALSE NEIGHBOUR: 'it returns false'. Refute it at one input. -/
def tagWidthsWrong : ChangeSpec := { name := "tagWidths", fn := fun _ => fun
  | [d1, d2, d3, d4] => { results := [.lit (.bool false)], args := [d1, d2, d3, d4] }
  | _ => none }
def TagWidthsWrongFalsely : Prop := tagWidthsRow.holds Tryd.pinned (OpenSpec.ofChange tagWidthsWrong)

/-- 'paymasterlaw07.TagUnlike': WHATEVER THE INPUT: true; the input reads as it did. -/
def tagUnlikeSpec : ChangeSpec := { name := "tagUnlike", fn := fun _ => fun
  | [d1, d2, d3, d4] => { results := [.lit (.bool true)], args := [d1, d2, d3, d4] }
  | _ => none }
def tagUnlikeRow : OpenClaim := { program := "ytomninikmcmmcaadoor", sum := "a491d8cf57e5f58f92a5d4bfcfa5df3d27327de505ad200f165892a9dd01c231", func := "paymaster/paymasterlaw07.TagUnlike", spec := "tagUnlike", inPlace := ["internal/bytealg.IndexByteString", "internal/bytealg.IndexString", "internal/abi.NoEscape", "internal/bytealg.MakeNoZero"], unfollowed := true, recurses := true, named := ["unicode/utf8.first", "unicode/utf8.acceptRanges", "paymaster/block.constants", "internal/bytealg.MaxLen"], apart := false, laid := [("paymaster/block.constants", laid_paymaster_block_constants), ("unicode/utf8.acceptRanges", laid_unicode_utf8_acceptRanges), ("unicode/utf8.first", laid_unicode_utf8_first)] }
def TagUnlikeSaid : Prop := tagUnlikeRow.holds Tryd.pinned (OpenSpec.ofChange tagUnlikeSpec)

/-- ITS FALSE NEIGHBOUR: 'it returns false'. Refute it at one input. -/
def tagUnlikeWrong : ChangeSpec := { name := "tagUnlike", fn := fun _ => fun
  | [d1, d2, d3, d4] => { results := [.lit (.bool false)], args := [d1, d2, d3, d4] }
  | _ => none }
def TagUnlikeWrongFalsely : Prop := tagUnlikeRow.holds Tryd.pinned (OpenSpec.ofChange tagUnlikeWrong)

/-- 'paymasterlaw07.TagSeeds': WHATEVER THE INPUT: true; the input reads as it did. -/
def tagSeedsSpec : ChangeSpec := { name := "tagSeeds", fn := fun _ => fun
  | [d1, d2, d3, d4] => { results := [.lit (.bool true)], args := [d1, d2, d3, d4] }
  | _ => none }
def tagSeedsRow : OpenClaim := { program := "ytomninikmcmmcaadoor", sum := "a491d8cf57e5f58f92a5d4bfcfa5df3d27327de505ad200f165892a9dd01c231", func := "paymaster/paymasterlaw07.TagSeeds", spec := "tagSeeds", inPlace := ["internal/bytealg.IndexByteString", "internal/bytealg.IndexString", "internal/abi.NoEscape", "internal/bytealg.MakeNoZero"], unfollowed := true, recurses := true, named := ["unicode/utf8.first", "unicode/utf8.acceptRanges", "paymaster/block.constants", "internal/bytealg.MaxLen"], apart := false, laid := [("paymaster/block.constants", laid_paymaster_block_constants), ("unicode/utf8.acceptRanges", laid_unicode_utf8_acceptRanges), ("unicode/utf8.first", laid_unicode_utf8_first)] }
def TagSeedsSaid : Prop := tagSeedsRow.holds Tryd.pinned (OpenSpec.ofChange tagSeedsSpec)

/-- ITS FALSE NEIGHBOUR: 'it returns false'. Refute it at one input. -/
def tagSeedsWrong : ChangeSpec := { name := "tagSeeds", fn := fun _ => fun
  | [d1, d2, d3, d4] => { results := [.lit (.bool false)], args := [d1, d2, d3, d4] }
  | _ => none }
def TagSeedsWrongFalsely : Prop := tagSeedsRow.holds Tryd.pinned (OpenSpec.ofChange tagSeedsWrong)

/- THE SECOND FORM. 'bulk': how many values and letters a reading holds, each counted each time it is reached (what is shared counts as often as it is met; a slice's spare places count too). A statement '..UptoSaid' is the law's where the arguments, and the package variables that the reading takes, are together of bulk at most 1048576: NARROWER than '..Said'. Prove '..Said' where nothing that the law and all that it calls make is longer than what came in: it says more and counts as full. Else prove '..UptoSaid'. A law counts once. -/
mutual
def uptoBulk {H : Type} : DataW H → Nat
  | .lit (.string bytes) => bytes.length + 1
  | .lit _ => 1
  | .nil => 1
  | .ptr d => uptoBulk d + 1
  | .slice elems spare => uptoBulkAll elems + uptoBulkAll spare + 1
  | .agg parts => uptoBulkAll parts + 1
  | .iface _ d => uptoBulk d + 1
  | .map entries => uptoBulkEntries entries + 1
  | .held _ => 1
def uptoBulkAll {H : Type} : List (DataW H) → Nat
  | [] => 0
  | d :: r => uptoBulk d + uptoBulkAll r
def uptoBulkEntries {H : Type} : List (Lit × DataW H) → Nat
  | [] => 0
  | x :: r => uptoBulkEntry x + uptoBulkEntries r
def uptoBulkEntry {H : Type} : Lit × DataW H → Nat
  | (.string bytes, d) => bytes.length + uptoBulk d + 1
  | (_, d) => uptoBulk d + 1
 end
def uptoSmall : (H : Type) → List (DataW H) → Bool := fun _ ds => decide (uptoBulkAll ds ≤ 1048576)
def OpenSpec.upto (s : _root_.Go.ChangeSpec) : _root_.Go.OpenSpec := { _root_.Go.OpenSpec.ofChange s with cond := some uptoSmall }

/-- 'paymasterlaw06.HmacNil', WHERE WHAT IT READS IS OF BULK AT MOST 1048576: true; the input reads as it did. -/
def hmacNilUptoRow : OpenClaim := { program := "ytomninikmcmmcaadoor", sum := "a491d8cf57e5f58f92a5d4bfcfa5df3d27327de505ad200f165892a9dd01c231", func := "paymaster/paymasterlaw06.HmacNil", spec := "hmacNil", inPlace := ["internal/abi.NoEscape"], unfollowed := true, recurses := true, named := ["paymaster/block.constants"], apart := false, laid := [("paymaster/block.constants", laid_paymaster_block_constants)], narrowed := true }
def HmacNilUptoSaid : Prop := hmacNilUptoRow.holds Tryd.pinned (OpenSpec.upto hmacNilSpec)

/-- 'paymasterlaw07.TagTexts', WHERE WHAT IT READS IS OF BULK AT MOST 1048576: true; the input reads as it did. -/
def tagTextsUptoRow : OpenClaim := { program := "ytomninikmcmmcaadoor", sum := "a491d8cf57e5f58f92a5d4bfcfa5df3d27327de505ad200f165892a9dd01c231", func := "paymaster/paymasterlaw07.TagTexts", spec := "tagTexts", inPlace := ["internal/bytealg.IndexByteString", "internal/bytealg.IndexString"], named := ["unicode/utf8.first", "unicode/utf8.acceptRanges", "internal/bytealg.MaxLen"], apart := false, laid := [("unicode/utf8.acceptRanges", laid_unicode_utf8_acceptRanges), ("unicode/utf8.first", laid_unicode_utf8_first)], narrowed := true }
def TagTextsUptoSaid : Prop := tagTextsUptoRow.holds Tryd.pinned (OpenSpec.upto tagTextsSpec)

/-- 'paymasterlaw06.HmacRuns', WHERE WHAT IT READS IS OF BULK AT MOST 1048576: true; the input reads as it did. -/
def hmacRunsUptoRow : OpenClaim := { program := "ytomninikmcmmcaadoor", sum := "a491d8cf57e5f58f92a5d4bfcfa5df3d27327de505ad200f165892a9dd01c231", func := "paymaster/paymasterlaw06.HmacRuns", spec := "hmacRuns", inPlace := ["internal/abi.NoEscape", "internal/bytealg.MakeNoZero"], unfollowed := true, recurses := true, named := ["paymaster/block.constants"], apart := false, laid := [("paymaster/block.constants", laid_paymaster_block_constants)], narrowed := true }
def HmacRunsUptoSaid : Prop := hmacRunsUptoRow.holds Tryd.pinned (OpenSpec.upto hmacRunsSpec)

/-- 'paymasterlaw06.HmacSums', WHERE WHAT IT READS IS OF BULK AT MOST 1048576: true; the input reads as it did. -/
def hmacSumsUptoRow : OpenClaim := { program := "ytomninikmcmmcaadoor", sum := "a491d8cf57e5f58f92a5d4bfcfa5df3d27327de505ad200f165892a9dd01c231", func := "paymaster/paymasterlaw06.HmacSums", spec := "hmacSums", inPlace := ["internal/abi.NoEscape", "internal/bytealg.MakeNoZero"], unfollowed := true, recurses := true, named := ["paymaster/block.constants"], apart := false, laid := [("paymaster/block.constants", laid_paymaster_block_constants)], narrowed := true }
def HmacSumsUptoSaid : Prop := hmacSumsUptoRow.holds Tryd.pinned (OpenSpec.upto hmacSumsSpec)

/-- 'paymasterlaw07.TagNodes', WHERE WHAT IT READS IS OF BULK AT MOST 1048576: true; the input reads as it did. -/
def tagNodesUptoRow : OpenClaim := { program := "ytomninikmcmmcaadoor", sum := "a491d8cf57e5f58f92a5d4bfcfa5df3d27327de505ad200f165892a9dd01c231", func := "paymaster/paymasterlaw07.TagNodes", spec := "tagNodes", inPlace := ["internal/abi.NoEscape", "internal/bytealg.IndexByteString", "internal/bytealg.IndexString"], unfollowed := true, recurses := true, named := ["paymaster/block.constants", "unicode/utf8.first", "unicode/utf8.acceptRanges", "internal/bytealg.MaxLen"], apart := false, laid := [("paymaster/block.constants", laid_paymaster_block_constants), ("unicode/utf8.acceptRanges", laid_unicode_utf8_acceptRanges), ("unicode/utf8.first", laid_unicode_utf8_first)], narrowed := true }
def TagNodesUptoSaid : Prop := tagNodesUptoRow.holds Tryd.pinned (OpenSpec.upto tagNodesSpec)

/-- 'paymasterlaw06.HmacPieces', WHERE WHAT IT READS IS OF BULK AT MOST 1048576: true; the input reads as it did. -/
def hmacPiecesUptoRow : OpenClaim := { program := "ytomninikmcmmcaadoor", sum := "a491d8cf57e5f58f92a5d4bfcfa5df3d27327de505ad200f165892a9dd01c231", func := "paymaster/paymasterlaw06.HmacPieces", spec := "hmacPieces", inPlace := ["internal/abi.NoEscape", "internal/bytealg.MakeNoZero"], unfollowed := true, recurses := true, named := ["paymaster/block.constants"], apart := false, laid := [("paymaster/block.constants", laid_paymaster_block_constants)], narrowed := true }
def HmacPiecesUptoSaid : Prop := hmacPiecesUptoRow.holds Tryd.pinned (OpenSpec.upto hmacPiecesSpec)

/-- 'paymasterlaw06.HmacKeys', WHERE WHAT IT READS IS OF BULK AT MOST 1048576: true; the input reads as it did. -/
def hmacKeysUptoRow : OpenClaim := { program := "ytomninikmcmmcaadoor", sum := "a491d8cf57e5f58f92a5d4bfcfa5df3d27327de505ad200f165892a9dd01c231", func := "paymaster/paymasterlaw06.HmacKeys", spec := "hmacKeys", inPlace := ["internal/abi.NoEscape", "internal/bytealg.MakeNoZero"], unfollowed := true, recurses := true, named := ["paymaster/block.constants"], apart := false, laid := [("paymaster/block.constants", laid_paymaster_block_constants)], narrowed := true }
def HmacKeysUptoSaid : Prop := hmacKeysUptoRow.holds Tryd.pinned (OpenSpec.upto hmacKeysSpec)

/-- 'paymasterlaw06.HmacDigests', WHERE WHAT IT READS IS OF BULK AT MOST 1048576: true; the input reads as it did. -/
def hmacDigestsUptoRow : OpenClaim := { program := "ytomninikmcmmcaadoor", sum := "a491d8cf57e5f58f92a5d4bfcfa5df3d27327de505ad200f165892a9dd01c231", func := "paymaster/paymasterlaw06.HmacDigests", spec := "hmacDigests", inPlace := ["internal/abi.NoEscape", "internal/bytealg.MakeNoZero"], unfollowed := true, recurses := true, named := ["paymaster/block.constants"], apart := false, laid := [("paymaster/block.constants", laid_paymaster_block_constants)], narrowed := true }
def HmacDigestsUptoSaid : Prop := hmacDigestsUptoRow.holds Tryd.pinned (OpenSpec.upto hmacDigestsSpec)

/-- 'paymasterlaw06.HmacIs', WHERE WHAT IT READS IS OF BULK AT MOST 1048576: true; the input reads as it did. -/
def hmacIsUptoRow : OpenClaim := { program := "ytomninikmcmmcaadoor", sum := "a491d8cf57e5f58f92a5d4bfcfa5df3d27327de505ad200f165892a9dd01c231", func := "paymaster/paymasterlaw06.HmacIs", spec := "hmacIs", inPlace := ["internal/abi.NoEscape", "internal/bytealg.MakeNoZero"], unfollowed := true, recurses := true, named := ["paymaster/block.constants"], apart := false, laid := [("paymaster/block.constants", laid_paymaster_block_constants)], narrowed := true }
def HmacIsUptoSaid : Prop := hmacIsUptoRow.holds Tryd.pinned (OpenSpec.upto hmacIsSpec)

/-- 'paymasterlaw07.TagSalts', WHERE WHAT IT READS IS OF BULK AT MOST 1048576: true; the input reads as it did. -/
def tagSaltsUptoRow : OpenClaim := { program := "ytomninikmcmmcaadoor", sum := "a491d8cf57e5f58f92a5d4bfcfa5df3d27327de505ad200f165892a9dd01c231", func := "paymaster/paymasterlaw07.TagSalts", spec := "tagSalts", inPlace := ["internal/abi.NoEscape", "internal/bytealg.MakeNoZero"], unfollowed := true, recurses := true, named := ["paymaster/block.constants"], apart := false, laid := [("paymaster/block.constants", laid_paymaster_block_constants)], narrowed := true }
def TagSaltsUptoSaid : Prop := tagSaltsUptoRow.holds Tryd.pinned (OpenSpec.upto tagSaltsSpec)

/-- 'paymasterlaw07.TagBack', WHERE WHAT IT READS IS OF BULK AT MOST 1048576: true; the input reads as it did. -/
def tagBackUptoRow : OpenClaim := { program := "ytomninikmcmmcaadoor", sum := "a491d8cf57e5f58f92a5d4bfcfa5df3d27327de505ad200f165892a9dd01c231", func := "paymaster/paymasterlaw07.TagBack", spec := "tagBack", inPlace := ["internal/bytealg.IndexByteString", "internal/bytealg.IndexString", "internal/abi.NoEscape", "internal/bytealg.MakeNoZero"], unfollowed := true, recurses := true, named := ["unicode/utf8.first", "unicode/utf8.acceptRanges", "paymaster/block.constants", "internal/bytealg.MaxLen"], apart := false, laid := [("paymaster/block.constants", laid_paymaster_block_constants), ("unicode/utf8.acceptRanges", laid_unicode_utf8_acceptRanges), ("unicode/utf8.first", laid_unicode_utf8_first)], narrowed := true }
def TagBackUptoSaid : Prop := tagBackUptoRow.holds Tryd.pinned (OpenSpec.upto tagBackSpec)

/-- 'paymasterlaw07.TagWidths', WHERE WHAT IT READS IS OF BULK AT MOST 1048576: true; the input reads as it did. -/
def tagWidthsUptoRow : OpenClaim := { program := "ytomninikmcmmcaadoor", sum := "a491d8cf57e5f58f92a5d4bfcfa5df3d27327de505ad200f165892a9dd01c231", func := "paymaster/paymasterlaw07.TagWidths", spec := "tagWidths", inPlace := ["internal/bytealg.IndexByteString", "internal/bytealg.IndexString", "internal/abi.NoEscape", "internal/bytealg.MakeNoZero"], unfollowed := true, recurses := true, named := ["unicode/utf8.first", "unicode/utf8.acceptRanges", "paymaster/block.constants", "internal/bytealg.MaxLen"], apart := false, laid := [("paymaster/block.constants", laid_paymaster_block_constants), ("unicode/utf8.acceptRanges", laid_unicode_utf8_acceptRanges), ("unicode/utf8.first", laid_unicode_utf8_first)], narrowed := true }
def TagWidthsUptoSaid : Prop := tagWidthsUptoRow.holds Tryd.pinned (OpenSpec.upto tagWidthsSpec)

/-- 'paymasterlaw07.TagUnlike', WHERE WHAT IT READS IS OF BULK AT MOST 1048576: true; the input reads as it did. -/
def tagUnlikeUptoRow : OpenClaim := { program := "ytomninikmcmmcaadoor", sum := "a491d8cf57e5f58f92a5d4bfcfa5df3d27327de505ad200f165892a9dd01c231", func := "paymaster/paymasterlaw07.TagUnlike", spec := "tagUnlike", inPlace := ["internal/bytealg.IndexByteString", "internal/bytealg.IndexString", "internal/abi.NoEscape", "internal/bytealg.MakeNoZero"], unfollowed := true, recurses := true, named := ["unicode/utf8.first", "unicode/utf8.acceptRanges", "paymaster/block.constants", "internal/bytealg.MaxLen"], apart := false, laid := [("paymaster/block.constants", laid_paymaster_block_constants), ("unicode/utf8.acceptRanges", laid_unicode_utf8_acceptRanges), ("unicode/utf8.first", laid_unicode_utf8_first)], narrowed := true }
def TagUnlikeUptoSaid : Prop := tagUnlikeUptoRow.holds Tryd.pinned (OpenSpec.upto tagUnlikeSpec)

/-- 'paymasterlaw07.TagSeeds', WHERE WHAT IT READS IS OF BULK AT MOST 1048576: true; the input reads as it did. -/
def tagSeedsUptoRow : OpenClaim := { program := "ytomninikmcmmcaadoor", sum := "a491d8cf57e5f58f92a5d4bfcfa5df3d27327de505ad200f165892a9dd01c231", func := "paymaster/paymasterlaw07.TagSeeds", spec := "tagSeeds", inPlace := ["internal/bytealg.IndexByteString", "internal/bytealg.IndexString", "internal/abi.NoEscape", "internal/bytealg.MakeNoZero"], unfollowed := true, recurses := true, named := ["unicode/utf8.first", "unicode/utf8.acceptRanges", "paymaster/block.constants", "internal/bytealg.MaxLen"], apart := false, laid := [("paymaster/block.constants", laid_paymaster_block_constants), ("unicode/utf8.acceptRanges", laid_unicode_utf8_acceptRanges), ("unicode/utf8.first", laid_unicode_utf8_first)], narrowed := true }
def TagSeedsUptoSaid : Prop := tagSeedsUptoRow.holds Tryd.pinned (OpenSpec.upto tagSeedsSpec)

end Rows
end Go.Proofs.YtomninikmcmmcaaDoor
