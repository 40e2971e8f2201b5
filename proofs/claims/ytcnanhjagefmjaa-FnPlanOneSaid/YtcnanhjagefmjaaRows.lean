/-
  No cell of these rows narrows 'for every input' (looked for: loops, veiled, ifaces, maps, wideKeys, modest, calm, conditions, laid).
  DERIVED. THE GIVEN ROWS OF THIS SEAT. 12 by the template 'for every input the law returns true; each argument reads behind the call as it read before'; 0 by the template 'total and deterministic' (their statements: YtcnanhjagefmjaaTotals.lean).
  GIVEN WITH THE SEED: the statements are not yours to turn. If you find one false, say at which input.
  Laid BY PROGRAM, IN A SANDBOX (cutbox-rows.mjs): the forced cells as the released guide's own fill.sh prints them over the translation 9205d446ae107162… (all of the seat's roots in one cut). By AI agents, Wed Nov 11 2026. No macro, syntax, notation, axiom, sorry.
-/
import Derived.Test.YtcnanhjagefmjaaChecked
import GoSem.Claim
import GoSem.ClaimJoined
import GoSem.ClaimMapViews
import Derived.JoinedTies
import Derived.KernelRfl
namespace Go.Proofs.Ytcnanhjagefmjaa
/- THE CELL 'sum', in the pinned program and in every row, IS THE sha256 OF THE DUMP (.gsa) THAT YtcnanhjagefmjaaProg.lean LOADS. Nothing in Lean hashes anything: it is a label: what it is worth is what the hold of that sum in a sandbox is worth. -/
noncomputable def Try.pinned : Pinned := { name := "ytcnanhjagefmjaa", sum := "9205d446ae1071620c5d5a56f3d7eef11ab1fe5f72e9c74d0028140c74cce070", checked := Try.checked }
namespace Rows
def none {H : Type} : Left H := { results := [], args := [] }

/-- 'laws.FnExactPlaceMoved': WHATEVER THE INPUT: true; the input reads as it did. -/
def fnExactPlaceMovedSpec : ChangeSpec := { name := "fnExactPlaceMoved", fn := fun _ => fun
  | [d1, d2, d3, d4] => { results := [.lit (.bool true)], args := [d1, d2, d3, d4] }
  | _ => none }
def fnExactPlaceMovedRow : OpenClaim := { program := "ytcnanhjagefmjaa", sum := "9205d446ae1071620c5d5a56f3d7eef11ab1fe5f72e9c74d0028140c74cce070", func := "loop.example/chainfiles/laws.FnExactPlaceMoved", spec := "fnExactPlaceMoved", unfollowed := true, recurses := true, apart := false }
def FnExactPlaceMovedSaid : Prop := fnExactPlaceMovedRow.holds Try.pinned (OpenSpec.ofChange fnExactPlaceMovedSpec)

/-- ITS FALSE NEIGHBOUR: 'it returns false'. Refute it at one input. -/
def fnExactPlaceMovedWrong : ChangeSpec := { name := "fnExactPlaceMoved", fn := fun _ => fun
  | [d1, d2, d3, d4] => { results := [.lit (.bool false)], args := [d1, d2, d3, d4] }
  | _ => none }
def FnExactPlaceMovedWrongFalsely : Prop := fnExactPlaceMovedRow.holds Try.pinned (OpenSpec.ofChange fnExactPlaceMovedWrong)

/-- 'laws.FnMoved': WHATEVER THE INPUT: true; the input reads as it did. -/
def fnMovedSpec : ChangeSpec := { name := "fnMoved", fn := fun _ => fun
  | [d] => { results := [.lit (.bool true)], args := [d] }
  | _ => none }
def fnMovedRow : OpenClaim := { program := "ytcnanhjagefmjaa", sum := "9205d446ae1071620c5d5a56f3d7eef11ab1fe5f72e9c74d0028140c74cce070", func := "loop.example/chainfiles/laws.FnMoved", spec := "fnMoved", unfollowed := true, recurses := true, apart := false }
def FnMovedSaid : Prop := fnMovedRow.holds Try.pinned (OpenSpec.ofChange fnMovedSpec)

/-- ITS FALSE NEIGHBOUR: 'it returns false'. Refute it at one input. -/
def fnMovedWrong : ChangeSpec := { name := "fnMoved", fn := fun _ => fun
  | [d] => { results := [.lit (.bool false)], args := [d] }
  | _ => none }
def FnMovedWrongFalsely : Prop := fnMovedRow.holds Try.pinned (OpenSpec.ofChange fnMovedWrong)

/-- 'laws.FnMovedOne': WHATEVER THE INPUT: true; the input reads as it did. -/
def fnMovedOneSpec : ChangeSpec := { name := "fnMovedOne", fn := fun _ => fun
  | [d1, d2] => { results := [.lit (.bool true)], args := [d1, d2] }
  | _ => none }
def fnMovedOneRow : OpenClaim := { program := "ytcnanhjagefmjaa", sum := "9205d446ae1071620c5d5a56f3d7eef11ab1fe5f72e9c74d0028140c74cce070", func := "loop.example/chainfiles/laws.FnMovedOne", spec := "fnMovedOne", unfollowed := true, recurses := true, apart := false }
def FnMovedOneSaid : Prop := fnMovedOneRow.holds Try.pinned (OpenSpec.ofChange fnMovedOneSpec)

/-- ITS FALSE NEIGHBOUR: 'it returns false'. Refute it at one input. -/
def fnMovedOneWrong : ChangeSpec := { name := "fnMovedOne", fn := fun _ => fun
  | [d1, d2] => { results := [.lit (.bool false)], args := [d1, d2] }
  | _ => none }
def FnMovedOneWrongFalsely : Prop := fnMovedOneRow.holds Try.pinned (OpenSpec.ofChange fnMovedOneWrong)

/-- 'laws.FnExactPlanLost': WHATEVER THE INPUT: true; the input reads as it did. -/
def fnExactPlanLostSpec : ChangeSpec := { name := "fnExactPlanLost", fn := fun _ => fun
  | [d1, d2, d3, d4] => { results := [.lit (.bool true)], args := [d1, d2, d3, d4] }
  | _ => none }
def fnExactPlanLostRow : OpenClaim := { program := "ytcnanhjagefmjaa", sum := "9205d446ae1071620c5d5a56f3d7eef11ab1fe5f72e9c74d0028140c74cce070", func := "loop.example/chainfiles/laws.FnExactPlanLost", spec := "fnExactPlanLost", unfollowed := true, recurses := true, apart := false }
def FnExactPlanLostSaid : Prop := fnExactPlanLostRow.holds Try.pinned (OpenSpec.ofChange fnExactPlanLostSpec)

/-- ITS FALSE NEIGHBOUR: 'it returns false'. Refute it at one input. -/
def fnExactPlanLostWrong : ChangeSpec := { name := "fnExactPlanLost", fn := fun _ => fun
  | [d1, d2, d3, d4] => { results := [.lit (.bool false)], args := [d1, d2, d3, d4] }
  | _ => none }
def FnExactPlanLostWrongFalsely : Prop := fnExactPlanLostRow.holds Try.pinned (OpenSpec.ofChange fnExactPlanLostWrong)

/-- 'laws.FnPlanLostFew': WHATEVER THE INPUT: true; the input reads as it did. -/
def fnPlanLostFewSpec : ChangeSpec := { name := "fnPlanLostFew", fn := fun _ => fun
  | [d] => { results := [.lit (.bool true)], args := [d] }
  | _ => none }
def fnPlanLostFewRow : OpenClaim := { program := "ytcnanhjagefmjaa", sum := "9205d446ae1071620c5d5a56f3d7eef11ab1fe5f72e9c74d0028140c74cce070", func := "loop.example/chainfiles/laws.FnPlanLostFew", spec := "fnPlanLostFew", unfollowed := true, recurses := true, apart := false }
def FnPlanLostFewSaid : Prop := fnPlanLostFewRow.holds Try.pinned (OpenSpec.ofChange fnPlanLostFewSpec)

/-- ITS FALSE NEIGHBOUR: 'it returns false'. Refute it at one input. -/
def fnPlanLostFewWrong : ChangeSpec := { name := "fnPlanLostFew", fn := fun _ => fun
  | [d] => { results := [.lit (.bool false)], args := [d] }
  | _ => none }
def FnPlanLostFewWrongFalsely : Prop := fnPlanLostFewRow.holds Try.pinned (OpenSpec.ofChange fnPlanLostFewWrong)

/-- 'laws.FnPlanLost': WHATEVER THE INPUT: true; the input reads as it did. -/
def fnPlanLostSpec : ChangeSpec := { name := "fnPlanLost", fn := fun _ => fun
  | [d] => { results := [.lit (.bool true)], args := [d] }
  | _ => none }
def fnPlanLostRow : OpenClaim := { program := "ytcnanhjagefmjaa", sum := "9205d446ae1071620c5d5a56f3d7eef11ab1fe5f72e9c74d0028140c74cce070", func := "loop.example/chainfiles/laws.FnPlanLost", spec := "fnPlanLost", unfollowed := true, recurses := true, apart := false }
def FnPlanLostSaid : Prop := fnPlanLostRow.holds Try.pinned (OpenSpec.ofChange fnPlanLostSpec)

/-- ITS FALSE NEIGHBOUR: 'it returns false'. Refute it at one input. -/
def fnPlanLostWrong : ChangeSpec := { name := "fnPlanLost", fn := fun _ => fun
  | [d] => { results := [.lit (.bool false)], args := [d] }
  | _ => none }
def FnPlanLostWrongFalsely : Prop := fnPlanLostRow.holds Try.pinned (OpenSpec.ofChange fnPlanLostWrong)

/-- 'laws.FnPlanNone': WHATEVER THE INPUT: true; the input reads as it did. -/
def fnPlanNoneSpec : ChangeSpec := { name := "fnPlanNone", fn := fun _ => fun
  | [d] => { results := [.lit (.bool true)], args := [d] }
  | _ => none }
def fnPlanNoneRow : OpenClaim := { program := "ytcnanhjagefmjaa", sum := "9205d446ae1071620c5d5a56f3d7eef11ab1fe5f72e9c74d0028140c74cce070", func := "loop.example/chainfiles/laws.FnPlanNone", spec := "fnPlanNone", unfollowed := true, recurses := true, apart := false }
def FnPlanNoneSaid : Prop := fnPlanNoneRow.holds Try.pinned (OpenSpec.ofChange fnPlanNoneSpec)

/-- ITS FALSE NEIGHBOUR: 'it returns false'. Refute it at one input. -/
def fnPlanNoneWrong : ChangeSpec := { name := "fnPlanNone", fn := fun _ => fun
  | [d] => { results := [.lit (.bool false)], args := [d] }
  | _ => none }
def FnPlanNoneWrongFalsely : Prop := fnPlanNoneRow.holds Try.pinned (OpenSpec.ofChange fnPlanNoneWrong)

/-- 'laws.FnPlanOne': WHATEVER THE INPUT: true; the input reads as it did. -/
def fnPlanOneSpec : ChangeSpec := { name := "fnPlanOne", fn := fun _ => fun
  | [d1, d2] => { results := [.lit (.bool true)], args := [d1, d2] }
  | _ => none }
def fnPlanOneRow : OpenClaim := { program := "ytcnanhjagefmjaa", sum := "9205d446ae1071620c5d5a56f3d7eef11ab1fe5f72e9c74d0028140c74cce070", func := "loop.example/chainfiles/laws.FnPlanOne", spec := "fnPlanOne", unfollowed := true, recurses := true, apart := false }
def FnPlanOneSaid : Prop := fnPlanOneRow.holds Try.pinned (OpenSpec.ofChange fnPlanOneSpec)

/-- ITS FALSE NEIGHBOUR: 'it returns false'. Refute it at one input. -/
def fnPlanOneWrong : ChangeSpec := { name := "fnPlanOne", fn := fun _ => fun
  | [d1, d2] => { results := [.lit (.bool false)], args := [d1, d2] }
  | _ => none }
def FnPlanOneWrongFalsely : Prop := fnPlanOneRow.holds Try.pinned (OpenSpec.ofChange fnPlanOneWrong)

/-- 'laws.FnExactPlanOf': WHATEVER THE INPUT: true; the input reads as it did. -/
def fnExactPlanOfSpec : ChangeSpec := { name := "fnExactPlanOf", fn := fun _ => fun
  | [d1, d2, d3, d4] => { results := [.lit (.bool true)], args := [d1, d2, d3, d4] }
  | _ => none }
def fnExactPlanOfRow : OpenClaim := { program := "ytcnanhjagefmjaa", sum := "9205d446ae1071620c5d5a56f3d7eef11ab1fe5f72e9c74d0028140c74cce070", func := "loop.example/chainfiles/laws.FnExactPlanOf", spec := "fnExactPlanOf", unfollowed := true, recurses := true, apart := false }
def FnExactPlanOfSaid : Prop := fnExactPlanOfRow.holds Try.pinned (OpenSpec.ofChange fnExactPlanOfSpec)

/-- ITS FALSE NEIGHBOUR: 'it returns false'. Refute it at one input. -/
def fnExactPlanOfWrong : ChangeSpec := { name := "fnExactPlanOf", fn := fun _ => fun
  | [d1, d2, d3, d4] => { results := [.lit (.bool false)], args := [d1, d2, d3, d4] }
  | _ => none }
def FnExactPlanOfWrongFalsely : Prop := fnExactPlanOfRow.holds Try.pinned (OpenSpec.ofChange fnExactPlanOfWrong)

/-- 'laws.FnPlan': WHATEVER THE INPUT: true; the input reads as it did. -/
def fnPlanSpec : ChangeSpec := { name := "fnPlan", fn := fun _ => fun
  | [d] => { results := [.lit (.bool true)], args := [d] }
  | _ => none }
def fnPlanRow : OpenClaim := { program := "ytcnanhjagefmjaa", sum := "9205d446ae1071620c5d5a56f3d7eef11ab1fe5f72e9c74d0028140c74cce070", func := "loop.example/chainfiles/laws.FnPlan", spec := "fnPlan", unfollowed := true, recurses := true, apart := false }
def FnPlanSaid : Prop := fnPlanRow.holds Try.pinned (OpenSpec.ofChange fnPlanSpec)

/-- ITS FALSE NEIGHBOUR: 'it returns false'. Refute it at one input. -/
def fnPlanWrong : ChangeSpec := { name := "fnPlan", fn := fun _ => fun
  | [d] => { results := [.lit (.bool false)], args := [d] }
  | _ => none }
def FnPlanWrongFalsely : Prop := fnPlanRow.holds Try.pinned (OpenSpec.ofChange fnPlanWrong)

/-- 'laws.FnPlanMany': WHATEVER THE INPUT: true; the input reads as it did. -/
def fnPlanManySpec : ChangeSpec := { name := "fnPlanMany", fn := fun _ => fun
  | [d1, d2] => { results := [.lit (.bool true)], args := [d1, d2] }
  | _ => none }
def fnPlanManyRow : OpenClaim := { program := "ytcnanhjagefmjaa", sum := "9205d446ae1071620c5d5a56f3d7eef11ab1fe5f72e9c74d0028140c74cce070", func := "loop.example/chainfiles/laws.FnPlanMany", spec := "fnPlanMany", unfollowed := true, recurses := true, apart := false }
def FnPlanManySaid : Prop := fnPlanManyRow.holds Try.pinned (OpenSpec.ofChange fnPlanManySpec)

/-- ITS FALSE NEIGHBOUR: 'it returns false'. Refute it at one input. -/
def fnPlanManyWrong : ChangeSpec := { name := "fnPlanMany", fn := fun _ => fun
  | [d1, d2] => { results := [.lit (.bool false)], args := [d1, d2] }
  | _ => none }
def FnPlanManyWrongFalsely : Prop := fnPlanManyRow.holds Try.pinned (OpenSpec.ofChange fnPlanManyWrong)

/-- 'laws.FnPlanLoadAll': WHATEVER THE INPUT: true; the input reads as it did. -/
def fnPlanLoadAllSpec : ChangeSpec := { name := "fnPlanLoadAll", fn := fun _ => fun
  | [d] => { results := [.lit (.bool true)], args := [d] }
  | _ => none }
def fnPlanLoadAllRow : OpenClaim := { program := "ytcnanhjagefmjaa", sum := "9205d446ae1071620c5d5a56f3d7eef11ab1fe5f72e9c74d0028140c74cce070", func := "loop.example/chainfiles/laws.FnPlanLoadAll", spec := "fnPlanLoadAll", unfollowed := true, recurses := true, apart := false }
def FnPlanLoadAllSaid : Prop := fnPlanLoadAllRow.holds Try.pinned (OpenSpec.ofChange fnPlanLoadAllSpec)

/-- ITS FALSE NEIGHBOUR: 'it returns false'. Refute it at one input. -/
def fnPlanLoadAllWrong : ChangeSpec := { name := "fnPlanLoadAll", fn := fun _ => fun
  | [d] => { results := [.lit (.bool false)], args := [d] }
  | _ => none }
def FnPlanLoadAllWrongFalsely : Prop := fnPlanLoadAllRow.holds Try.pinned (OpenSpec.ofChange fnPlanLoadAllWrong)

/- THE SECOND FORM. 'bulk': how many values and letters a reading holds, each counted each time it is reached (what is shared counts as often as it is met; a slice's spare places count too). A statement '..UptoSaid' is the law's where the arguments, and the package variables that the reading takes, are together of bulk at most 1048576: NARROWER than '..Said'. Prove '..Said' where nothing that the law and all that it calls make is longer than what came in: it says more and counts as full. Else prove '..UptoSaid'. A law counts once. -/
mutual
def uptoBulk {H : Type} : DataW H → Nat
  | .lit (.string bytes) => bytes.length + 1
  | .lit _ => 1
  | .nil => 1
  | .ptr d => uptoBulk d + 1
  | .slice elems spare => uptoBulkAll elems + uptoBulkAll spare + 1
  | .agg parts => uptoBulkAll parts + 1
  | .iface _ d => uptoBulk d + 1
  | .map entries => uptoBulkEntries entries + 1
  | .held _ => 1
def uptoBulkAll {H : Type} : List (DataW H) → Nat
  | [] => 0
  | d :: r => uptoBulk d + uptoBulkAll r
def uptoBulkEntries {H : Type} : List (Lit × DataW H) → Nat
  | [] => 0
  | x :: r => uptoBulkEntry x + uptoBulkEntries r
def uptoBulkEntry {H : Type} : Lit × DataW H → Nat
  | (.string bytes, d) => bytes.length + uptoBulk d + 1
  | (_, d) => uptoBulk d + 1
 end
def uptoSmall : (H : Type) → List (DataW H) → Bool := fun _ ds => decide (uptoBulkAll ds ≤ 1048576)
def OpenSpec.upto (s : _root_.Go.ChangeSpec) : _root_.Go.OpenSpec := { _root_.Go.OpenSpec.ofChange s with cond := some uptoSmall }

/-- 'laws.FnExactPlaceMoved', WHERE WHAT IT READS IS OF BULK AT MOST 1048576: true; the input reads as it did. -/
def fnExactPlaceMovedUptoRow : OpenClaim := { program := "ytcnanhjagefmjaa", sum := "9205d446ae1071620c5d5a56f3d7eef11ab1fe5f72e9c74d0028140c74cce070", func := "loop.example/chainfiles/laws.FnExactPlaceMoved", spec := "fnExactPlaceMoved", unfollowed := true, recurses := true, apart := false, narrowed := true }
def FnExactPlaceMovedUptoSaid : Prop := fnExactPlaceMovedUptoRow.holds Try.pinned (OpenSpec.upto fnExactPlaceMovedSpec)

/-- 'laws.FnMoved', WHERE WHAT IT READS IS OF BULK AT MOST 1048576: true; the input reads as it did. -/
def fnMovedUptoRow : OpenClaim := { program := "ytcnanhjagefmjaa", sum := "9205d446ae1071620c5d5a56f3d7eef11ab1fe5f72e9c74d0028140c74cce070", func := "loop.example/chainfiles/laws.FnMoved", spec := "fnMoved", unfollowed := true, recurses := true, apart := false, narrowed := true }
def FnMovedUptoSaid : Prop := fnMovedUptoRow.holds Try.pinned (OpenSpec.upto fnMovedSpec)

/-- 'laws.FnMovedOne', WHERE WHAT IT READS IS OF BULK AT MOST 1048576: true; the input reads as it did. -/
def fnMovedOneUptoRow : OpenClaim := { program := "ytcnanhjagefmjaa", sum := "9205d446ae1071620c5d5a56f3d7eef11ab1fe5f72e9c74d0028140c74cce070", func := "loop.example/chainfiles/laws.FnMovedOne", spec := "fnMovedOne", unfollowed := true, recurses := true, apart := false, narrowed := true }
def FnMovedOneUptoSaid : Prop := fnMovedOneUptoRow.holds Try.pinned (OpenSpec.upto fnMovedOneSpec)

/-- 'laws.FnExactPlanLost', WHERE WHAT IT READS IS OF BULK AT MOST 1048576: true; the input reads as it did. -/
def fnExactPlanLostUptoRow : OpenClaim := { program := "ytcnanhjagefmjaa", sum := "9205d446ae1071620c5d5a56f3d7eef11ab1fe5f72e9c74d0028140c74cce070", func := "loop.example/chainfiles/laws.FnExactPlanLost", spec := "fnExactPlanLost", unfollowed := true, recurses := true, apart := false, narrowed := true }
def FnExactPlanLostUptoSaid : Prop := fnExactPlanLostUptoRow.holds Try.pinned (OpenSpec.upto fnExactPlanLostSpec)

/-- 'laws.FnPlanLostFew', WHERE WHAT IT READS IS OF BULK AT MOST 1048576: true; the input reads as it did. -/
def fnPlanLostFewUptoRow : OpenClaim := { program := "ytcnanhjagefmjaa", sum := "9205d446ae1071620c5d5a56f3d7eef11ab1fe5f72e9c74d0028140c74cce070", func := "loop.example/chainfiles/laws.FnPlanLostFew", spec := "fnPlanLostFew", unfollowed := true, recurses := true, apart := false, narrowed := true }
def FnPlanLostFewUptoSaid : Prop := fnPlanLostFewUptoRow.holds Try.pinned (OpenSpec.upto fnPlanLostFewSpec)

/-- 'laws.FnPlanLost', WHERE WHAT IT READS IS OF BULK AT MOST 1048576: true; the input reads as it did. -/
def fnPlanLostUptoRow : OpenClaim := { program := "ytcnanhjagefmjaa", sum := "9205d446ae1071620c5d5a56f3d7eef11ab1fe5f72e9c74d0028140c74cce070", func := "loop.example/chainfiles/laws.FnPlanLost", spec := "fnPlanLost", unfollowed := true, recurses := true, apart := false, narrowed := true }
def FnPlanLostUptoSaid : Prop := fnPlanLostUptoRow.holds Try.pinned (OpenSpec.upto fnPlanLostSpec)

/-- 'laws.FnPlanNone', WHERE WHAT IT READS IS OF BULK AT MOST 1048576: true; the input reads as it did. -/
def fnPlanNoneUptoRow : OpenClaim := { program := "ytcnanhjagefmjaa", sum := "9205d446ae1071620c5d5a56f3d7eef11ab1fe5f72e9c74d0028140c74cce070", func := "loop.example/chainfiles/laws.FnPlanNone", spec := "fnPlanNone", unfollowed := true, recurses := true, apart := false, narrowed := true }
def FnPlanNoneUptoSaid : Prop := fnPlanNoneUptoRow.holds Try.pinned (OpenSpec.upto fnPlanNoneSpec)

/-- 'laws.FnPlanOne', WHERE WHAT IT READS IS OF BULK AT MOST 1048576: true; the input reads as it did. -/
def fnPlanOneUptoRow : OpenClaim := { program := "ytcnanhjagefmjaa", sum := "9205d446ae1071620c5d5a56f3d7eef11ab1fe5f72e9c74d0028140c74cce070", func := "loop.example/chainfiles/laws.FnPlanOne", spec := "fnPlanOne", unfollowed := true, recurses := true, apart := false, narrowed := true }
def FnPlanOneUptoSaid : Prop := fnPlanOneUptoRow.holds Try.pinned (OpenSpec.upto fnPlanOneSpec)

/-- 'laws.FnExactPlanOf', WHERE WHAT IT READS IS OF BULK AT MOST 1048576: true; the input reads as it did. -/
def fnExactPlanOfUptoRow : OpenClaim := { program := "ytcnanhjagefmjaa", sum := "9205d446ae1071620c5d5a56f3d7eef11ab1fe5f72e9c74d0028140c74cce070", func := "loop.example/chainfiles/laws.FnExactPlanOf", spec := "fnExactPlanOf", unfollowed := true, recurses := true, apart := false, narrowed := true }
def FnExactPlanOfUptoSaid : Prop := fnExactPlanOfUptoRow.holds Try.pinned (OpenSpec.upto fnExactPlanOfSpec)

/-- 'laws.FnPlan', WHERE WHAT IT READS IS OF BULK AT MOST 1048576: true; the input reads as it did. -/
def fnPlanUptoRow : OpenClaim := { program := "ytcnanhjagefmjaa", sum := "9205d446ae1071620c5d5a56f3d7eef11ab1fe5f72e9c74d0028140c74cce070", func := "loop.example/chainfiles/laws.FnPlan", spec := "fnPlan", unfollowed := true, recurses := true, apart := false, narrowed := true }
def FnPlanUptoSaid : Prop := fnPlanUptoRow.holds Try.pinned (OpenSpec.upto fnPlanSpec)

/-- 'laws.FnPlanMany', WHERE WHAT IT READS IS OF BULK AT MOST 1048576: true; the input reads as it did. -/
def fnPlanManyUptoRow : OpenClaim := { program := "ytcnanhjagefmjaa", sum := "9205d446ae1071620c5d5a56f3d7eef11ab1fe5f72e9c74d0028140c74cce070", func := "loop.example/chainfiles/laws.FnPlanMany", spec := "fnPlanMany", unfollowed := true, recurses := true, apart := false, narrowed := true }
def FnPlanManyUptoSaid : Prop := fnPlanManyUptoRow.holds Try.pinned (OpenSpec.upto fnPlanManySpec)

/-- 'laws.FnPlanLoadAll', WHERE WHAT IT READS IS OF BULK AT MOST 1048576: true; the input reads as it did. -/
def fnPlanLoadAllUptoRow : OpenClaim := { program := "ytcnanhjagefmjaa", sum := "9205d446ae1071620c5d5a56f3d7eef11ab1fe5f72e9c74d0028140c74cce070", func := "loop.example/chainfiles/laws.FnPlanLoadAll", spec := "fnPlanLoadAll", unfollowed := true, recurses := true, apart := false, narrowed := true }
def FnPlanLoadAllUptoSaid : Prop := fnPlanLoadAllUptoRow.holds Try.pinned (OpenSpec.upto fnPlanLoadAllSpec)

end Rows
end Go.Proofs.Ytcnanhjagefmjaa
