/-
  NARROWER THAN 'FOR EVERY INPUT', by the rows' own cells (each row's printed sentence says how): FnExactUpdateText: laid · FnExactLogText: laid · FnLogTextJoin: laid · FnChainText: laid · FnChainTextNode: laid · FnExactChainText: laid · FnUpdateText: laid · FnExactLogFrom: laid · FnLogText: laid · FnLogFromNot: laid · FnLogFrom: laid.
  DERIVED. THE GIVEN ROWS OF THIS SEAT. 11 by the template 'for every input the law returns true; each argument reads behind the call as it read before'; 0 by the template 'total and deterministic' (their statements: YtebklbncfcdkmaaDoorTotals.lean).
  GIVEN WITH THE SEED: the statements are not yours to turn. If you find one false, say at which input.
  Laid BY PROGRAM, IN A SANDBOX (cutbox-rows.mjs): the forced cells as the released guide's own fill.sh prints them over the translation d6ab9625a3f9df22… (all of the seat's roots in one cut). By AI agents, Wed Nov 11 2026. No macro, syntax, notation, axiom, sorry.
-/
import Derived.Test.YtebklbncfcdkmaaDoorChecked
import GoSem.PinnedTables
import GoSem.Claim
import GoSem.ClaimJoined
import GoSem.ClaimMapViews
import Derived.JoinedTies
import Derived.KernelRfl
namespace Go.Proofs.YtebklbncfcdkmaaDoor
/- THE CELL 'sum', in the pinned program and in every row, IS THE sha256 OF THE DUMP (.gsa) THAT YtebklbncfcdkmaaDoorProg.lean LOADS. Nothing in Lean hashes anything: it is a label: what it is worth is what the hold of that sum in a sandbox is worth. -/
noncomputable def Tryd.pinned : Pinned := { name := "ytebklbncfcdkmaadoor", sum := "d6ab9625a3f9df226fe9823e7027cd2a073cdd80b3e82a06156f34797073b525", checked := Tryd.checked }
namespace Rows
def none {H : Type} : Left H := { results := [], args := [] }

/- WHAT THE LISTED PACKAGE-LEVEL VARIABLES READ AS WHEN THE CALL BEGINS. Each datum BY PROGRAM (the guide's laid-datum.mjs) off the statement by which the dump's own 'gosem.cut.vars' lays the variable. In a bare row this is a premise. The card (YtebklbncfcdkmaaDoorCards.lean) ties it to the program's text. -/
def laid_math_bits_deBruijn32tab {H : Type} : DataW H := .agg [.lit (.int .u8 0), .lit (.int .u8 1), .lit (.int .u8 28), .lit (.int .u8 2), .lit (.int .u8 29), .lit (.int .u8 14), .lit (.int .u8 24), .lit (.int .u8 3), .lit (.int .u8 30), .lit (.int .u8 22), .lit (.int .u8 20), .lit (.int .u8 15), .lit (.int .u8 25), .lit (.int .u8 17), .lit (.int .u8 4), .lit (.int .u8 8), .lit (.int .u8 31), .lit (.int .u8 27), .lit (.int .u8 13), .lit (.int .u8 23), .lit (.int .u8 21), .lit (.int .u8 19), .lit (.int .u8 16), .lit (.int .u8 7), .lit (.int .u8 26), .lit (.int .u8 12), .lit (.int .u8 18), .lit (.int .u8 6), .lit (.int .u8 11), .lit (.int .u8 5), .lit (.int .u8 10), .lit (.int .u8 9)]
def laid_math_bits_deBruijn64tab {H : Type} : DataW H := .agg [.lit (.int .u8 0), .lit (.int .u8 1), .lit (.int .u8 56), .lit (.int .u8 2), .lit (.int .u8 57), .lit (.int .u8 49), .lit (.int .u8 28), .lit (.int .u8 3), .lit (.int .u8 61), .lit (.int .u8 58), .lit (.int .u8 42), .lit (.int .u8 50), .lit (.int .u8 38), .lit (.int .u8 29), .lit (.int .u8 17), .lit (.int .u8 4), .lit (.int .u8 62), .lit (.int .u8 47), .lit (.int .u8 59), .lit (.int .u8 36), .lit (.int .u8 45), .lit (.int .u8 43), .lit (.int .u8 51), .lit (.int .u8 22), .lit (.int .u8 53), .lit (.int .u8 39), .lit (.int .u8 33), .lit (.int .u8 30), .lit (.int .u8 24), .lit (.int .u8 18), .lit (.int .u8 12), .lit (.int .u8 5), .lit (.int .u8 63), .lit (.int .u8 55), .lit (.int .u8 48), .lit (.int .u8 27), .lit (.int .u8 60), .lit (.int .u8 41), .lit (.int .u8 37), .lit (.int .u8 16), .lit (.int .u8 46), .lit (.int .u8 35), .lit (.int .u8 44), .lit (.int .u8 21), .lit (.int .u8 52), .lit (.int .u8 32), .lit (.int .u8 23), .lit (.int .u8 11), .lit (.int .u8 54), .lit (.int .u8 26), .lit (.int .u8 40), .lit (.int .u8 15), .lit (.int .u8 34), .lit (.int .u8 20), .lit (.int .u8 31), .lit (.int .u8 10), .lit (.int .u8 25), .lit (.int .u8 14), .lit (.int .u8 19), .lit (.int .u8 9), .lit (.int .u8 13), .lit (.int .u8 8), .lit (.int .u8 7), .lit (.int .u8 6)]
def laid_internal_strconv_uint64pow10 {H : Type} : DataW H := .agg [.lit (.int .u64 1), .lit (.int .u64 10), .lit (.int .u64 100), .lit (.int .u64 1000), .lit (.int .u64 10000), .lit (.int .u64 100000), .lit (.int .u64 1000000), .lit (.int .u64 10000000), .lit (.int .u64 100000000), .lit (.int .u64 1000000000), .lit (.int .u64 10000000000), .lit (.int .u64 100000000000), .lit (.int .u64 1000000000000), .lit (.int .u64 10000000000000), .lit (.int .u64 100000000000000), .lit (.int .u64 1000000000000000), .lit (.int .u64 10000000000000000), .lit (.int .u64 100000000000000000), .lit (.int .u64 1000000000000000000), .lit (.int .u64 10000000000000000000)]
def laid_unicode_utf8_acceptRanges {H : Type} : DataW H := .agg [.agg [.lit (.int .u8 128), .lit (.int .u8 191)], .agg [.lit (.int .u8 160), .lit (.int .u8 191)], .agg [.lit (.int .u8 128), .lit (.int .u8 159)], .agg [.lit (.int .u8 144), .lit (.int .u8 191)], .agg [.lit (.int .u8 128), .lit (.int .u8 143)], .agg [.lit (.int .u8 0), .lit (.int .u8 0)], .agg [.lit (.int .u8 0), .lit (.int .u8 0)], .agg [.lit (.int .u8 0), .lit (.int .u8 0)], .agg [.lit (.int .u8 0), .lit (.int .u8 0)], .agg [.lit (.int .u8 0), .lit (.int .u8 0)], .agg [.lit (.int .u8 0), .lit (.int .u8 0)], .agg [.lit (.int .u8 0), .lit (.int .u8 0)], .agg [.lit (.int .u8 0), .lit (.int .u8 0)], .agg [.lit (.int .u8 0), .lit (.int .u8 0)], .agg [.lit (.int .u8 0), .lit (.int .u8 0)], .agg [.lit (.int .u8 0), .lit (.int .u8 0)]]
def laid_errors_errorType {H : Type} : DataW H := .iface "internal/reflectlite.rtype" (.agg [.ptr (.lit (.string [101, 114, 114, 111, 114]))])
/-- One of Go's own tables, pinned by name: the form's constant. -/
def laid_unicode_utf8_first : DataW Unit := Go.Pinned.utf8First

/-- 'laws.FnExactUpdateText': WHATEVER THE INPUT: true; the input reads as it did. -/
def fnExactUpdateTextSpec : ChangeSpec := { name := "fnExactUpdateText", fn := fun _ => fun
  | [d] => { results := [.lit (.bool true)], args := [d] }
  | _ => none }
def fnExactUpdateTextRow : OpenClaim := { program := "ytebklbncfcdkmaadoor", sum := "d6ab9625a3f9df226fe9823e7027cd2a073cdd80b3e82a06156f34797073b525", func := "loop.example/chainfiles/laws.FnExactUpdateText", spec := "fnExactUpdateText", recurses := true, named := ["internal/strconv.uint64pow10", "math/bits.deBruijn32tab", "math/bits.deBruijn64tab"], apart := false, laid := [("math/bits.deBruijn32tab", laid_math_bits_deBruijn32tab), ("math/bits.deBruijn64tab", laid_math_bits_deBruijn64tab), ("internal/strconv.uint64pow10", laid_internal_strconv_uint64pow10)] }
def FnExactUpdateTextSaid : Prop := fnExactUpdateTextRow.holds Tryd.pinned (OpenSpec.ofChange fnExactUpdateTextSpec)

/-- ITS FALSE NEIGHBOUR: 'it returns false'. Refute it at one input. -/
def fnExactUpdateTextWrong : ChangeSpec := { name := "fnExactUpdateText", fn := fun _ => fun
  | [d] => { results := [.lit (.bool false)], args := [d] }
  | _ => none }
def FnExactUpdateTextWrongFalsely : Prop := fnExactUpdateTextRow.holds Tryd.pinned (OpenSpec.ofChange fnExactUpdateTextWrong)

/-- 'laws.FnExactLogText': WHATEVER THE INPUT: true; the input reads as it did. -/
def fnExactLogTextSpec : ChangeSpec := { name := "fnExactLogText", fn := fun _ => fun
  | [d] => { results := [.lit (.bool true)], args := [d] }
  | _ => none }
def fnExactLogTextRow : OpenClaim := { program := "ytebklbncfcdkmaadoor", sum := "d6ab9625a3f9df226fe9823e7027cd2a073cdd80b3e82a06156f34797073b525", func := "loop.example/chainfiles/laws.FnExactLogText", spec := "fnExactLogText", inPlace := ["internal/abi.NoEscape"], recurses := true, named := ["internal/strconv.uint64pow10", "math/bits.deBruijn32tab", "math/bits.deBruijn64tab"], apart := false, laid := [("math/bits.deBruijn32tab", laid_math_bits_deBruijn32tab), ("math/bits.deBruijn64tab", laid_math_bits_deBruijn64tab), ("internal/strconv.uint64pow10", laid_internal_strconv_uint64pow10)] }
def FnExactLogTextSaid : Prop := fnExactLogTextRow.holds Tryd.pinned (OpenSpec.ofChange fnExactLogTextSpec)

/-- ITS FALSE NEIGHBOUR: 'it returns false'. Refute it at one input. -/
def fnExactLogTextWrong : ChangeSpec := { name := "fnExactLogText", fn := fun _ => fun
  | [d] => { results := [.lit (.bool false)], args := [d] }
  | _ => none }
def FnExactLogTextWrongFalsely : Prop := fnExactLogTextRow.holds Tryd.pinned (OpenSpec.ofChange fnExactLogTextWrong)

/-- 'laws.FnLogTextJoin': WHATEVER THE INPUT: true; the input reads as it did. -/
def fnLogTextJoinSpec : ChangeSpec := { name := "fnLogTextJoin", fn := fun _ => fun
  | [d] => { results := [.lit (.bool true)], args := [d] }
  | _ => none }
def fnLogTextJoinRow : OpenClaim := { program := "ytebklbncfcdkmaadoor", sum := "d6ab9625a3f9df226fe9823e7027cd2a073cdd80b3e82a06156f34797073b525", func := "loop.example/chainfiles/laws.FnLogTextJoin", spec := "fnLogTextJoin", inPlace := ["internal/abi.NoEscape"], recurses := true, named := ["internal/strconv.uint64pow10", "math/bits.deBruijn32tab", "math/bits.deBruijn64tab"], apart := false, laid := [("math/bits.deBruijn32tab", laid_math_bits_deBruijn32tab), ("math/bits.deBruijn64tab", laid_math_bits_deBruijn64tab), ("internal/strconv.uint64pow10", laid_internal_strconv_uint64pow10)] }
def FnLogTextJoinSaid : Prop := fnLogTextJoinRow.holds Tryd.pinned (OpenSpec.ofChange fnLogTextJoinSpec)

/-- ITS FALSE NEIGHBOUR: 'it returns false'. Refute it at one input. -/
def fnLogTextJoinWrong : ChangeSpec := { name := "fnLogTextJoin", fn := fun _ => fun
  | [d] => { results := [.lit (.bool false)], args := [d] }
  | _ => none }
def FnLogTextJoinWrongFalsely : Prop := fnLogTextJoinRow.holds Tryd.pinned (OpenSpec.ofChange fnLogTextJoinWrong)

/-- 'laws.FnChainText': WHATEVER THE INPUT: true; the input reads as it did. -/
def fnChainTextSpec : ChangeSpec := { name := "fnChainText", fn := fun _ => fun
  | [d] => { results := [.lit (.bool true)], args := [d] }
  | _ => none }
def fnChainTextRow : OpenClaim := { program := "ytebklbncfcdkmaadoor", sum := "d6ab9625a3f9df226fe9823e7027cd2a073cdd80b3e82a06156f34797073b525", func := "loop.example/chainfiles/laws.FnChainText", spec := "fnChainText", inPlace := ["internal/abi.NoEscape"], recurses := true, named := ["internal/strconv.uint64pow10", "math/bits.deBruijn32tab", "math/bits.deBruijn64tab"], apart := false, laid := [("math/bits.deBruijn32tab", laid_math_bits_deBruijn32tab), ("math/bits.deBruijn64tab", laid_math_bits_deBruijn64tab), ("internal/strconv.uint64pow10", laid_internal_strconv_uint64pow10)] }
def FnChainTextSaid : Prop := fnChainTextRow.holds Tryd.pinned (OpenSpec.ofChange fnChainTextSpec)

/-- ITS FALSE NEIGHBOUR: 'it returns false'. Refute it at one input. -/
def fnChainTextWrong : ChangeSpec := { name := "fnChainText", fn := fun _ => fun
  | [d] => { results := [.lit (.bool false)], args := [d] }
  | _ => none }
def FnChainTextWrongFalsely : Prop := fnChainTextRow.holds Tryd.pinned (OpenSpec.ofChange fnChainTextWrong)

/-- 'laws.FnChainTextNode': WHATEVER THE INPUT: true; the input reads as it did. -/
def fnChainTextNodeSpec : ChangeSpec := { name := "fnChainTextNode", fn := fun _ => fun
  | [d] => { results := [.lit (.bool true)], args := [d] }
  | _ => none }
def fnChainTextNodeRow : OpenClaim := { program := "ytebklbncfcdkmaadoor", sum := "d6ab9625a3f9df226fe9823e7027cd2a073cdd80b3e82a06156f34797073b525", func := "loop.example/chainfiles/laws.FnChainTextNode", spec := "fnChainTextNode", inPlace := ["internal/abi.NoEscape"], recurses := true, named := ["internal/strconv.uint64pow10", "math/bits.deBruijn32tab", "math/bits.deBruijn64tab"], apart := false, laid := [("math/bits.deBruijn32tab", laid_math_bits_deBruijn32tab), ("math/bits.deBruijn64tab", laid_math_bits_deBruijn64tab), ("internal/strconv.uint64pow10", laid_internal_strconv_uint64pow10)] }
def FnChainTextNodeSaid : Prop := fnChainTextNodeRow.holds Tryd.pinned (OpenSpec.ofChange fnChainTextNodeSpec)

/-- ITS FALSE NEIGHBOUR: 'it returns false'. Refute it at one input. -/
def fnChainTextNodeWrong : ChangeSpec := { name := "fnChainTextNode", fn := fun _ => fun
  | [d] => { results := [.lit (.bool false)], args := [d] }
  | _ => none }
def FnChainTextNodeWrongFalsely : Prop := fnChainTextNodeRow.holds Tryd.pinned (OpenSpec.ofChange fnChainTextNodeWrong)

/-- 'laws.FnExactChainText': WHATEVER THE INPUT: true; the input reads as it did. -/
def fnExactChainTextSpec : ChangeSpec := { name := "fnExactChainText", fn := fun _ => fun
  | [d] => { results := [.lit (.bool true)], args := [d] }
  | _ => none }
def fnExactChainTextRow : OpenClaim := { program := "ytebklbncfcdkmaadoor", sum := "d6ab9625a3f9df226fe9823e7027cd2a073cdd80b3e82a06156f34797073b525", func := "loop.example/chainfiles/laws.FnExactChainText", spec := "fnExactChainText", inPlace := ["internal/abi.NoEscape"], recurses := true, named := ["internal/strconv.uint64pow10", "math/bits.deBruijn32tab", "math/bits.deBruijn64tab"], apart := false, laid := [("math/bits.deBruijn32tab", laid_math_bits_deBruijn32tab), ("math/bits.deBruijn64tab", laid_math_bits_deBruijn64tab), ("internal/strconv.uint64pow10", laid_internal_strconv_uint64pow10)] }
def FnExactChainTextSaid : Prop := fnExactChainTextRow.holds Tryd.pinned (OpenSpec.ofChange fnExactChainTextSpec)

/-- ITS FALSE NEIGHBOUR: 'it returns false'. Refute it at one input. -/
def fnExactChainTextWrong : ChangeSpec := { name := "fnExactChainText", fn := fun _ => fun
  | [d] => { results := [.lit (.bool false)], args := [d] }
  | _ => none }
def FnExactChainTextWrongFalsely : Prop := fnExactChainTextRow.holds Tryd.pinned (OpenSpec.ofChange fnExactChainTextWrong)

/-- 'laws.FnUpdateText': WHATEVER THE INPUT: true; the input reads as it did. -/
def fnUpdateTextSpec : ChangeSpec := { name := "fnUpdateText", fn := fun _ => fun
  | [d] => { results := [.lit (.bool true)], args := [d] }
  | _ => none }
def fnUpdateTextRow : OpenClaim := { program := "ytebklbncfcdkmaadoor", sum := "d6ab9625a3f9df226fe9823e7027cd2a073cdd80b3e82a06156f34797073b525", func := "loop.example/chainfiles/laws.FnUpdateText", spec := "fnUpdateText", inPlace := ["internal/bytealg.CountString", "internal/bytealg.IndexByteString", "internal/bytealg.IndexString", "internal/reflectlite.ValueOf", "(internal/reflectlite.Value).Type", "(internal/reflectlite.Value).IsNil", "internal/reflectlite.TypeOf", "(internal/reflectlite.Value).Elem", "(internal/reflectlite.Value).Set"], unfollowed := true, recurses := true, named := ["internal/strconv.uint64pow10", "math/bits.deBruijn32tab", "math/bits.deBruijn64tab", "unicode/utf8.first", "unicode/utf8.acceptRanges", "internal/bytealg.MaxLen", "errors.errorType"], apart := false, laid := [("math/bits.deBruijn32tab", laid_math_bits_deBruijn32tab), ("math/bits.deBruijn64tab", laid_math_bits_deBruijn64tab), ("internal/strconv.uint64pow10", laid_internal_strconv_uint64pow10), ("unicode/utf8.acceptRanges", laid_unicode_utf8_acceptRanges), ("errors.errorType", laid_errors_errorType), ("unicode/utf8.first", laid_unicode_utf8_first)] }
def FnUpdateTextSaid : Prop := fnUpdateTextRow.holds Tryd.pinned (OpenSpec.ofChange fnUpdateTextSpec)

/-- ITS FALSE NEIGHBOUR: 'it returns false'. Refute it at one input. -/
def fnUpdateTextWrong : ChangeSpec := { name := "fnUpdateText", fn := fun _ => fun
  | [d] => { results := [.lit (.bool false)], args := [d] }
  | _ => none }
def FnUpdateTextWrongFalsely : Prop := fnUpdateTextRow.holds Tryd.pinned (OpenSpec.ofChange fnUpdateTextWrong)

/-- 'laws.FnExactLogFrom': WHATEVER THE INPUT: true; the input reads as it did. -/
def fnExactLogFromSpec : ChangeSpec := { name := "fnExactLogFrom", fn := fun _ => fun
  | [d] => { results := [.lit (.bool true)], args := [d] }
  | _ => none }
def fnExactLogFromRow : OpenClaim := { program := "ytebklbncfcdkmaadoor", sum := "d6ab9625a3f9df226fe9823e7027cd2a073cdd80b3e82a06156f34797073b525", func := "loop.example/chainfiles/laws.FnExactLogFrom", spec := "fnExactLogFrom", inPlace := ["internal/bytealg.CountString", "internal/bytealg.IndexByteString", "internal/bytealg.IndexString", "internal/reflectlite.ValueOf", "(internal/reflectlite.Value).Type", "(internal/reflectlite.Value).IsNil", "internal/reflectlite.TypeOf", "(internal/reflectlite.Value).Elem", "(internal/reflectlite.Value).Set"], unfollowed := true, recurses := true, named := ["unicode/utf8.first", "unicode/utf8.acceptRanges", "internal/bytealg.MaxLen", "internal/strconv.uint64pow10", "math/bits.deBruijn32tab", "math/bits.deBruijn64tab", "errors.errorType"], apart := false, laid := [("math/bits.deBruijn32tab", laid_math_bits_deBruijn32tab), ("math/bits.deBruijn64tab", laid_math_bits_deBruijn64tab), ("internal/strconv.uint64pow10", laid_internal_strconv_uint64pow10), ("unicode/utf8.acceptRanges", laid_unicode_utf8_acceptRanges), ("errors.errorType", laid_errors_errorType), ("unicode/utf8.first", laid_unicode_utf8_first)] }
def FnExactLogFromSaid : Prop := fnExactLogFromRow.holds Tryd.pinned (OpenSpec.ofChange fnExactLogFromSpec)

/-- ITS FALSE NEIGHBOUR: 'it returns false'. Refute it at one input. -/
def fnExactLogFromWrong : ChangeSpec := { name := "fnExactLogFrom", fn := fun _ => fun
  | [d] => { results := [.lit (.bool false)], args := [d] }
  | _ => none }
def FnExactLogFromWrongFalsely : Prop := fnExactLogFromRow.holds Tryd.pinned (OpenSpec.ofChange fnExactLogFromWrong)

/-- 'laws.FnLogText': WHATEVER THE INPUT: true; the input reads as it did. -/
def fnLogTextSpec : ChangeSpec := { name := "fnLogText", fn := fun _ => fun
  | [d] => { results := [.lit (.bool true)], args := [d] }
  | _ => none }
def fnLogTextRow : OpenClaim := { program := "ytebklbncfcdkmaadoor", sum := "d6ab9625a3f9df226fe9823e7027cd2a073cdd80b3e82a06156f34797073b525", func := "loop.example/chainfiles/laws.FnLogText", spec := "fnLogText", inPlace := ["internal/abi.NoEscape", "internal/bytealg.CountString", "internal/bytealg.IndexByteString", "internal/bytealg.IndexString", "internal/reflectlite.ValueOf", "(internal/reflectlite.Value).Type", "(internal/reflectlite.Value).IsNil", "internal/reflectlite.TypeOf", "(internal/reflectlite.Value).Elem", "(internal/reflectlite.Value).Set"], unfollowed := true, recurses := true, named := ["internal/strconv.uint64pow10", "math/bits.deBruijn32tab", "math/bits.deBruijn64tab", "unicode/utf8.first", "unicode/utf8.acceptRanges", "internal/bytealg.MaxLen", "errors.errorType"], apart := false, laid := [("math/bits.deBruijn32tab", laid_math_bits_deBruijn32tab), ("math/bits.deBruijn64tab", laid_math_bits_deBruijn64tab), ("internal/strconv.uint64pow10", laid_internal_strconv_uint64pow10), ("unicode/utf8.acceptRanges", laid_unicode_utf8_acceptRanges), ("errors.errorType", laid_errors_errorType), ("unicode/utf8.first", laid_unicode_utf8_first)] }
def FnLogTextSaid : Prop := fnLogTextRow.holds Tryd.pinned (OpenSpec.ofChange fnLogTextSpec)

/-- ITS FALSE NEIGHBOUR: 'it returns false'. Refute it at one input. -/
def fnLogTextWrong : ChangeSpec := { name := "fnLogText", fn := fun _ => fun
  | [d] => { results := [.lit (.bool false)], args := [d] }
  | _ => none }
def FnLogTextWrongFalsely : Prop := fnLogTextRow.holds Tryd.pinned (OpenSpec.ofChange fnLogTextWrong)

/-- 'laws.FnLogFromNot': WHATEVER THE INPUT: true; the input reads as it did. -/
def fnLogFromNotSpec : ChangeSpec := { name := "fnLogFromNot", fn := fun _ => fun
  | [d] => { results := [.lit (.bool true)], args := [d] }
  | _ => none }
def fnLogFromNotRow : OpenClaim := { program := "ytebklbncfcdkmaadoor", sum := "d6ab9625a3f9df226fe9823e7027cd2a073cdd80b3e82a06156f34797073b525", func := "loop.example/chainfiles/laws.FnLogFromNot", spec := "fnLogFromNot", inPlace := ["internal/bytealg.CountString", "internal/bytealg.IndexByteString", "internal/bytealg.IndexString", "internal/reflectlite.ValueOf", "(internal/reflectlite.Value).Type", "(internal/reflectlite.Value).IsNil", "internal/reflectlite.TypeOf", "(internal/reflectlite.Value).Elem", "(internal/reflectlite.Value).Set"], unfollowed := true, recurses := true, named := ["unicode/utf8.first", "unicode/utf8.acceptRanges", "internal/bytealg.MaxLen", "internal/strconv.uint64pow10", "math/bits.deBruijn32tab", "math/bits.deBruijn64tab", "errors.errorType"], apart := false, laid := [("math/bits.deBruijn32tab", laid_math_bits_deBruijn32tab), ("math/bits.deBruijn64tab", laid_math_bits_deBruijn64tab), ("internal/strconv.uint64pow10", laid_internal_strconv_uint64pow10), ("unicode/utf8.acceptRanges", laid_unicode_utf8_acceptRanges), ("errors.errorType", laid_errors_errorType), ("unicode/utf8.first", laid_unicode_utf8_first)] }
def FnLogFromNotSaid : Prop := fnLogFromNotRow.holds Tryd.pinned (OpenSpec.ofChange fnLogFromNotSpec)

/-- ITS FALSE NEIGHBOUR: 'it returns false'. Refute it at one input. -/
def fnLogFromNotWrong : ChangeSpec := { name := "fnLogFromNot", fn := fun _ => fun
  | [d] => { results := [.lit (.bool false)], args := [d] }
  | _ => none }
def FnLogFromNotWrongFalsely : Prop := fnLogFromNotRow.holds Tryd.pinned (OpenSpec.ofChange fnLogFromNotWrong)

/-- 'laws.FnLogFrom': WHATEVER THE INPUT: true; the input reads as it did. -/
def fnLogFromSpec : ChangeSpec := { name := "fnLogFrom", fn := fun _ => fun
  | [d] => { results := [.lit (.bool true)], args := [d] }
  | _ => none }
def fnLogFromRow : OpenClaim := { program := "ytebklbncfcdkmaadoor", sum := "d6ab9625a3f9df226fe9823e7027cd2a073cdd80b3e82a06156f34797073b525", func := "loop.example/chainfiles/laws.FnLogFrom", spec := "fnLogFrom", inPlace := ["internal/bytealg.CountString", "internal/bytealg.IndexByteString", "internal/bytealg.IndexString", "internal/reflectlite.ValueOf", "(internal/reflectlite.Value).Type", "(internal/reflectlite.Value).IsNil", "internal/reflectlite.TypeOf", "(internal/reflectlite.Value).Elem", "(internal/reflectlite.Value).Set", "internal/abi.NoEscape"], unfollowed := true, recurses := true, named := ["unicode/utf8.first", "unicode/utf8.acceptRanges", "internal/bytealg.MaxLen", "internal/strconv.uint64pow10", "math/bits.deBruijn32tab", "math/bits.deBruijn64tab", "errors.errorType"], apart := false, laid := [("math/bits.deBruijn32tab", laid_math_bits_deBruijn32tab), ("math/bits.deBruijn64tab", laid_math_bits_deBruijn64tab), ("internal/strconv.uint64pow10", laid_internal_strconv_uint64pow10), ("unicode/utf8.acceptRanges", laid_unicode_utf8_acceptRanges), ("errors.errorType", laid_errors_errorType), ("unicode/utf8.first", laid_unicode_utf8_first)] }
def FnLogFromSaid : Prop := fnLogFromRow.holds Tryd.pinned (OpenSpec.ofChange fnLogFromSpec)

/-- ITS FALSE NEIGHBOUR: 'it returns false'. Refute it at one input. -/
def fnLogFromWrong : ChangeSpec := { name := "fnLogFrom", fn := fun _ => fun
  | [d] => { results := [.lit (.bool false)], args := [d] }
  | _ => none }
def FnLogFromWrongFalsely : Prop := fnLogFromRow.holds Tryd.pinned (OpenSpec.ofChange fnLogFromWrong)

/- THE SECOND FORM. 'bulk': how many values and letters a reading holds, each counted each time it is reached (what is shared counts as often as it is met; a slice's spare places count too). A statement '..UptoSaid' is the law's where the arguments, and the package variables that the reading takes, are together of bulk at most 1048576: NARROWER than '..Said'. Prove '..Said' where nothing that the law and all that it calls make is longer than what came in: it says more and counts as full. Else prove '..UptoSaid'. A law counts once. -/
mutual
def uptoBulk {H : Type} : DataW H → Nat
  | .lit (.string bytes) => bytes.length + 1
  | .lit _ => 1
  | .nil => 1
  | .ptr d => uptoBulk d + 1
  | .slice elems spare => uptoBulkAll elems + uptoBulkAll spare + 1
  | .agg parts => uptoBulkAll parts + 1
  | .iface _ d => uptoBulk d + 1
  | .map entries => uptoBulkEntries entries + 1
  | .held _ => 1
def uptoBulkAll {H : Type} : List (DataW H) → Nat
  | [] => 0
  | d :: r => uptoBulk d + uptoBulkAll r
def uptoBulkEntries {H : Type} : List (Lit × DataW H) → Nat
  | [] => 0
  | x :: r => uptoBulkEntry x + uptoBulkEntries r
def uptoBulkEntry {H : Type} : Lit × DataW H → Nat
  | (.string bytes, d) => bytes.length + uptoBulk d + 1
  | (_, d) => uptoBulk d + 1
 end
def uptoSmall : (H : Type) → List (DataW H) → Bool := fun _ ds => decide (uptoBulkAll ds ≤ 1048576)
def OpenSpec.upto (s : _root_.Go.ChangeSpec) : _root_.Go.OpenSpec := { _root_.Go.OpenSpec.ofChange s with cond := some uptoSmall }

/-- 'laws.FnExactUpdateText', WHERE WHAT IT READS IS OF BULK AT MOST 1048576: true; the input reads as it did. -/
def fnExactUpdateTextUptoRow : OpenClaim := { program := "ytebklbncfcdkmaadoor", sum := "d6ab9625a3f9df226fe9823e7027cd2a073cdd80b3e82a06156f34797073b525", func := "loop.example/chainfiles/laws.FnExactUpdateText", spec := "fnExactUpdateText", recurses := true, named := ["internal/strconv.uint64pow10", "math/bits.deBruijn32tab", "math/bits.deBruijn64tab"], apart := false, laid := [("math/bits.deBruijn32tab", laid_math_bits_deBruijn32tab), ("math/bits.deBruijn64tab", laid_math_bits_deBruijn64tab), ("internal/strconv.uint64pow10", laid_internal_strconv_uint64pow10)], narrowed := true }
def FnExactUpdateTextUptoSaid : Prop := fnExactUpdateTextUptoRow.holds Tryd.pinned (OpenSpec.upto fnExactUpdateTextSpec)

/-- 'laws.FnExactLogText', WHERE WHAT IT READS IS OF BULK AT MOST 1048576: true; the input reads as it did. -/
def fnExactLogTextUptoRow : OpenClaim := { program := "ytebklbncfcdkmaadoor", sum := "d6ab9625a3f9df226fe9823e7027cd2a073cdd80b3e82a06156f34797073b525", func := "loop.example/chainfiles/laws.FnExactLogText", spec := "fnExactLogText", inPlace := ["internal/abi.NoEscape"], recurses := true, named := ["internal/strconv.uint64pow10", "math/bits.deBruijn32tab", "math/bits.deBruijn64tab"], apart := false, laid := [("math/bits.deBruijn32tab", laid_math_bits_deBruijn32tab), ("math/bits.deBruijn64tab", laid_math_bits_deBruijn64tab), ("internal/strconv.uint64pow10", laid_internal_strconv_uint64pow10)], narrowed := true }
def FnExactLogTextUptoSaid : Prop := fnExactLogTextUptoRow.holds Tryd.pinned (OpenSpec.upto fnExactLogTextSpec)

/-- 'laws.FnLogTextJoin', WHERE WHAT IT READS IS OF BULK AT MOST 1048576: true; the input reads as it did. -/
def fnLogTextJoinUptoRow : OpenClaim := { program := "ytebklbncfcdkmaadoor", sum := "d6ab9625a3f9df226fe9823e7027cd2a073cdd80b3e82a06156f34797073b525", func := "loop.example/chainfiles/laws.FnLogTextJoin", spec := "fnLogTextJoin", inPlace := ["internal/abi.NoEscape"], recurses := true, named := ["internal/strconv.uint64pow10", "math/bits.deBruijn32tab", "math/bits.deBruijn64tab"], apart := false, laid := [("math/bits.deBruijn32tab", laid_math_bits_deBruijn32tab), ("math/bits.deBruijn64tab", laid_math_bits_deBruijn64tab), ("internal/strconv.uint64pow10", laid_internal_strconv_uint64pow10)], narrowed := true }
def FnLogTextJoinUptoSaid : Prop := fnLogTextJoinUptoRow.holds Tryd.pinned (OpenSpec.upto fnLogTextJoinSpec)

/-- 'laws.FnChainText', WHERE WHAT IT READS IS OF BULK AT MOST 1048576: true; the input reads as it did. -/
def fnChainTextUptoRow : OpenClaim := { program := "ytebklbncfcdkmaadoor", sum := "d6ab9625a3f9df226fe9823e7027cd2a073cdd80b3e82a06156f34797073b525", func := "loop.example/chainfiles/laws.FnChainText", spec := "fnChainText", inPlace := ["internal/abi.NoEscape"], recurses := true, named := ["internal/strconv.uint64pow10", "math/bits.deBruijn32tab", "math/bits.deBruijn64tab"], apart := false, laid := [("math/bits.deBruijn32tab", laid_math_bits_deBruijn32tab), ("math/bits.deBruijn64tab", laid_math_bits_deBruijn64tab), ("internal/strconv.uint64pow10", laid_internal_strconv_uint64pow10)], narrowed := true }
def FnChainTextUptoSaid : Prop := fnChainTextUptoRow.holds Tryd.pinned (OpenSpec.upto fnChainTextSpec)

/-- 'laws.FnChainTextNode', WHERE WHAT IT READS IS OF BULK AT MOST 1048576: true; the input reads as it did. -/
def fnChainTextNodeUptoRow : OpenClaim := { program := "ytebklbncfcdkmaadoor", sum := "d6ab9625a3f9df226fe9823e7027cd2a073cdd80b3e82a06156f34797073b525", func := "loop.example/chainfiles/laws.FnChainTextNode", spec := "fnChainTextNode", inPlace := ["internal/abi.NoEscape"], recurses := true, named := ["internal/strconv.uint64pow10", "math/bits.deBruijn32tab", "math/bits.deBruijn64tab"], apart := false, laid := [("math/bits.deBruijn32tab", laid_math_bits_deBruijn32tab), ("math/bits.deBruijn64tab", laid_math_bits_deBruijn64tab), ("internal/strconv.uint64pow10", laid_internal_strconv_uint64pow10)], narrowed := true }
def FnChainTextNodeUptoSaid : Prop := fnChainTextNodeUptoRow.holds Tryd.pinned (OpenSpec.upto fnChainTextNodeSpec)

/-- 'laws.FnExactChainText', WHERE WHAT IT READS IS OF BULK AT MOST 1048576: true; the input reads as it did. -/
def fnExactChainTextUptoRow : OpenClaim := { program := "ytebklbncfcdkmaadoor", sum := "d6ab9625a3f9df226fe9823e7027cd2a073cdd80b3e82a06156f34797073b525", func := "loop.example/chainfiles/laws.FnExactChainText", spec := "fnExactChainText", inPlace := ["internal/abi.NoEscape"], recurses := true, named := ["internal/strconv.uint64pow10", "math/bits.deBruijn32tab", "math/bits.deBruijn64tab"], apart := false, laid := [("math/bits.deBruijn32tab", laid_math_bits_deBruijn32tab), ("math/bits.deBruijn64tab", laid_math_bits_deBruijn64tab), ("internal/strconv.uint64pow10", laid_internal_strconv_uint64pow10)], narrowed := true }
def FnExactChainTextUptoSaid : Prop := fnExactChainTextUptoRow.holds Tryd.pinned (OpenSpec.upto fnExactChainTextSpec)

/-- 'laws.FnUpdateText', WHERE WHAT IT READS IS OF BULK AT MOST 1048576: true; the input reads as it did. -/
def fnUpdateTextUptoRow : OpenClaim := { program := "ytebklbncfcdkmaadoor", sum := "d6ab9625a3f9df226fe9823e7027cd2a073cdd80b3e82a06156f34797073b525", func := "loop.example/chainfiles/laws.FnUpdateText", spec := "fnUpdateText", inPlace := ["internal/bytealg.CountString", "internal/bytealg.IndexByteString", "internal/bytealg.IndexString", "internal/reflectlite.ValueOf", "(internal/reflectlite.Value).Type", "(internal/reflectlite.Value).IsNil", "internal/reflectlite.TypeOf", "(internal/reflectlite.Value).Elem", "(internal/reflectlite.Value).Set"], unfollowed := true, recurses := true, named := ["internal/strconv.uint64pow10", "math/bits.deBruijn32tab", "math/bits.deBruijn64tab", "unicode/utf8.first", "unicode/utf8.acceptRanges", "internal/bytealg.MaxLen", "errors.errorType"], apart := false, laid := [("math/bits.deBruijn32tab", laid_math_bits_deBruijn32tab), ("math/bits.deBruijn64tab", laid_math_bits_deBruijn64tab), ("internal/strconv.uint64pow10", laid_internal_strconv_uint64pow10), ("unicode/utf8.acceptRanges", laid_unicode_utf8_acceptRanges), ("errors.errorType", laid_errors_errorType), ("unicode/utf8.first", laid_unicode_utf8_first)], narrowed := true }
def FnUpdateTextUptoSaid : Prop := fnUpdateTextUptoRow.holds Tryd.pinned (OpenSpec.upto fnUpdateTextSpec)

/-- 'laws.FnExactLogFrom', WHERE WHAT IT READS IS OF BULK AT MOST 1048576: true; the input reads as it did. -/
def fnExactLogFromUptoRow : OpenClaim := { program := "ytebklbncfcdkmaadoor", sum := "d6ab9625a3f9df226fe9823e7027cd2a073cdd80b3e82a06156f34797073b525", func := "loop.example/chainfiles/laws.FnExactLogFrom", spec := "fnExactLogFrom", inPlace := ["internal/bytealg.CountString", "internal/bytealg.IndexByteString", "internal/bytealg.IndexString", "internal/reflectlite.ValueOf", "(internal/reflectlite.Value).Type", "(internal/reflectlite.Value).IsNil", "internal/reflectlite.TypeOf", "(internal/reflectlite.Value).Elem", "(internal/reflectlite.Value).Set"], unfollowed := true, recurses := true, named := ["unicode/utf8.first", "unicode/utf8.acceptRanges", "internal/bytealg.MaxLen", "internal/strconv.uint64pow10", "math/bits.deBruijn32tab", "math/bits.deBruijn64tab", "errors.errorType"], apart := false, laid := [("math/bits.deBruijn32tab", laid_math_bits_deBruijn32tab), ("math/bits.deBruijn64tab", laid_math_bits_deBruijn64tab), ("internal/strconv.uint64pow10", laid_internal_strconv_uint64pow10), ("unicode/utf8.acceptRanges", laid_unicode_utf8_acceptRanges), ("errors.errorType", laid_errors_errorType), ("unicode/utf8.first", laid_unicode_utf8_first)], narrowed := true }
def FnExactLogFromUptoSaid : Prop := fnExactLogFromUptoRow.holds Tryd.pinned (OpenSpec.upto fnExactLogFromSpec)

/-- 'laws.FnLogText', WHERE WHAT IT READS IS OF BULK AT MOST 1048576: true; the input reads as it did. -/
def fnLogTextUptoRow : OpenClaim := { program := "ytebklbncfcdkmaadoor", sum := "d6ab9625a3f9df226fe9823e7027cd2a073cdd80b3e82a06156f34797073b525", func := "loop.example/chainfiles/laws.FnLogText", spec := "fnLogText", inPlace := ["internal/abi.NoEscape", "internal/bytealg.CountString", "internal/bytealg.IndexByteString", "internal/bytealg.IndexString", "internal/reflectlite.ValueOf", "(internal/reflectlite.Value).Type", "(internal/reflectlite.Value).IsNil", "internal/reflectlite.TypeOf", "(internal/reflectlite.Value).Elem", "(internal/reflectlite.Value).Set"], unfollowed := true, recurses := true, named := ["internal/strconv.uint64pow10", "math/bits.deBruijn32tab", "math/bits.deBruijn64tab", "unicode/utf8.first", "unicode/utf8.acceptRanges", "internal/bytealg.MaxLen", "errors.errorType"], apart := false, laid := [("math/bits.deBruijn32tab", laid_math_bits_deBruijn32tab), ("math/bits.deBruijn64tab", laid_math_bits_deBruijn64tab), ("internal/strconv.uint64pow10", laid_internal_strconv_uint64pow10), ("unicode/utf8.acceptRanges", laid_unicode_utf8_acceptRanges), ("errors.errorType", laid_errors_errorType), ("unicode/utf8.first", laid_unicode_utf8_first)], narrowed := true }
def FnLogTextUptoSaid : Prop := fnLogTextUptoRow.holds Tryd.pinned (OpenSpec.upto fnLogTextSpec)

/-- 'laws.FnLogFromNot', WHERE WHAT IT READS IS OF BULK AT MOST 1048576: true; the input reads as it did. -/
def fnLogFromNotUptoRow : OpenClaim := { program := "ytebklbncfcdkmaadoor", sum := "d6ab9625a3f9df226fe9823e7027cd2a073cdd80b3e82a06156f34797073b525", func := "loop.example/chainfiles/laws.FnLogFromNot", spec := "fnLogFromNot", inPlace := ["internal/bytealg.CountString", "internal/bytealg.IndexByteString", "internal/bytealg.IndexString", "internal/reflectlite.ValueOf", "(internal/reflectlite.Value).Type", "(internal/reflectlite.Value).IsNil", "internal/reflectlite.TypeOf", "(internal/reflectlite.Value).Elem", "(internal/reflectlite.Value).Set"], unfollowed := true, recurses := true, named := ["unicode/utf8.first", "unicode/utf8.acceptRanges", "internal/bytealg.MaxLen", "internal/strconv.uint64pow10", "math/bits.deBruijn32tab", "math/bits.deBruijn64tab", "errors.errorType"], apart := false, laid := [("math/bits.deBruijn32tab", laid_math_bits_deBruijn32tab), ("math/bits.deBruijn64tab", laid_math_bits_deBruijn64tab), ("internal/strconv.uint64pow10", laid_internal_strconv_uint64pow10), ("unicode/utf8.acceptRanges", laid_unicode_utf8_acceptRanges), ("errors.errorType", laid_errors_errorType), ("unicode/utf8.first", laid_unicode_utf8_first)], narrowed := true }
def FnLogFromNotUptoSaid : Prop := fnLogFromNotUptoRow.holds Tryd.pinned (OpenSpec.upto fnLogFromNotSpec)

/-- 'laws.FnLogFrom', WHERE WHAT IT READS IS OF BULK AT MOST 1048576: true; the input reads as it did. -/
def fnLogFromUptoRow : OpenClaim := { program := "ytebklbncfcdkmaadoor", sum := "d6ab9625a3f9df226fe9823e7027cd2a073cdd80b3e82a06156f34797073b525", func := "loop.example/chainfiles/laws.FnLogFrom", spec := "fnLogFrom", inPlace := ["internal/bytealg.CountString", "internal/bytealg.IndexByteString", "internal/bytealg.IndexString", "internal/reflectlite.ValueOf", "(internal/reflectlite.Value).Type", "(internal/reflectlite.Value).IsNil", "internal/reflectlite.TypeOf", "(internal/reflectlite.Value).Elem", "(internal/reflectlite.Value).Set", "internal/abi.NoEscape"], unfollowed := true, recurses := true, named := ["unicode/utf8.first", "unicode/utf8.acceptRanges", "internal/bytealg.MaxLen", "internal/strconv.uint64pow10", "math/bits.deBruijn32tab", "math/bits.deBruijn64tab", "errors.errorType"], apart := false, laid := [("math/bits.deBruijn32tab", laid_math_bits_deBruijn32tab), ("math/bits.deBruijn64tab", laid_math_bits_deBruijn64tab), ("internal/strconv.uint64pow10", laid_internal_strconv_uint64pow10), ("unicode/utf8.acceptRanges", laid_unicode_utf8_acceptRanges), ("errors.errorType", laid_errors_errorType), ("unicode/utf8.first", laid_unicode_utf8_first)], narrowed := true }
def FnLogFromUptoSaid : Prop := fnLogFromUptoRow.holds Tryd.pinned (OpenSpec.upto fnLogFromSpec)

end Rows
end Go.Proofs.YtebklbncfcdkmaaDoor
