/-
  No cell of these rows narrows 'for every input' (looked for: loops, veiled, ifaces, maps, wideKeys, modest, calm, conditions, laid).
  DERIVED. THE GIVEN ROWS OF THIS SEAT. 12 by the template 'for every input the law returns true; each argument reads behind the call as it read before'; 0 by the template 'total and deterministic' (their statements: YtkbckgnkbnakkaaTotals.lean).
  GIVEN WITH THE SEED: the statements are not yours to turn. If you find one false, say at which input.
  Laid BY PROGRAM, IN A SANDBOX (cutbox-rows.mjs): the forced cells as the released guide's own fill.sh prints them over the translation dd4a80b542c3eb12… (all of the seat's roots in one cut). By AI agents, Wed Nov 11 2026. No macro, syntax, notation, axiom, sorry.
-/
import Derived.Test.YtkbckgnkbnakkaaChecked
import GoSem.Claim
import GoSem.ClaimJoined
import GoSem.ClaimMapViews
import Derived.JoinedTies
import Derived.KernelRfl
namespace Go.Proofs.Ytkbckgnkbnakkaa
/- THE CELL 'sum', in the pinned program and in every row, IS THE sha256 OF THE DUMP (.gsa) THAT YtkbckgnkbnakkaaProg.lean LOADS. Nothing in Lean hashes anything: it is a label: what it is worth is what the hold of that sum in a sandbox is worth. -/
noncomputable def Try.pinned : Pinned := { name := "ytkbckgnkbnakkaa", sum := "dd4a80b542c3eb12d2bd828a359272c54931595191449b51e63e458a96c7146b", checked := Try.checked }
namespace Rows
def none {H : Type} : Left H := { results := [], args := [] }

/-- 'laws.FnViewPart': WHATEVER THE INPUT: true; the input reads as it did. -/
def fnViewPartSpec : ChangeSpec := { name := "fnViewPart", fn := fun _ => fun
  | [d] => { results := [.lit (.bool true)], args := [d] }
  | _ => none }
def fnViewPartRow : OpenClaim := { program := "ytkbckgnkbnakkaa", sum := "dd4a80b542c3eb12d2bd828a359272c54931595191449b51e63e458a96c7146b", func := "loop.example/chainfiles/laws.FnViewPart", spec := "fnViewPart", apart := false }
def FnViewPartSaid : Prop := fnViewPartRow.holds Try.pinned (OpenSpec.ofChange fnViewPartSpec)

/-- ITS FALSE NEIGHBOUR: 'it returns false'. Refute it at one input. -/
def fnViewPartWrong : ChangeSpec := { name := "fnViewPart", fn := fun _ => fun
  | [d] => { results := [.lit (.bool false)], args := [d] }
  | _ => none }
def FnViewPartWrongFalsely : Prop := fnViewPartRow.holds Try.pinned (OpenSpec.ofChange fnViewPartWrong)

/-- 'laws.FnExactViewValid': WHATEVER THE INPUT: true; the input reads as it did. -/
def fnExactViewValidSpec : ChangeSpec := { name := "fnExactViewValid", fn := fun _ => fun
  | [d] => { results := [.lit (.bool true)], args := [d] }
  | _ => none }
def fnExactViewValidRow : OpenClaim := { program := "ytkbckgnkbnakkaa", sum := "dd4a80b542c3eb12d2bd828a359272c54931595191449b51e63e458a96c7146b", func := "loop.example/chainfiles/laws.FnExactViewValid", spec := "fnExactViewValid", apart := false }
def FnExactViewValidSaid : Prop := fnExactViewValidRow.holds Try.pinned (OpenSpec.ofChange fnExactViewValidSpec)

/-- ITS FALSE NEIGHBOUR: 'it returns false'. Refute it at one input. -/
def fnExactViewValidWrong : ChangeSpec := { name := "fnExactViewValid", fn := fun _ => fun
  | [d] => { results := [.lit (.bool false)], args := [d] }
  | _ => none }
def FnExactViewValidWrongFalsely : Prop := fnExactViewValidRow.holds Try.pinned (OpenSpec.ofChange fnExactViewValidWrong)

/-- 'laws.FnTakesAll': WHATEVER THE INPUT: true; the input reads as it did. -/
def fnTakesAllSpec : ChangeSpec := { name := "fnTakesAll", fn := fun _ => fun
  | [d] => { results := [.lit (.bool true)], args := [d] }
  | _ => none }
def fnTakesAllRow : OpenClaim := { program := "ytkbckgnkbnakkaa", sum := "dd4a80b542c3eb12d2bd828a359272c54931595191449b51e63e458a96c7146b", func := "loop.example/chainfiles/laws.FnTakesAll", spec := "fnTakesAll", apart := false }
def FnTakesAllSaid : Prop := fnTakesAllRow.holds Try.pinned (OpenSpec.ofChange fnTakesAllSpec)

/-- ITS FALSE NEIGHBOUR: 'it returns false'. Refute it at one input. -/
def fnTakesAllWrong : ChangeSpec := { name := "fnTakesAll", fn := fun _ => fun
  | [d] => { results := [.lit (.bool false)], args := [d] }
  | _ => none }
def FnTakesAllWrongFalsely : Prop := fnTakesAllRow.holds Try.pinned (OpenSpec.ofChange fnTakesAllWrong)

/-- 'laws.FnTakes': WHATEVER THE INPUT: true; the input reads as it did. -/
def fnTakesSpec : ChangeSpec := { name := "fnTakes", fn := fun _ => fun
  | [d] => { results := [.lit (.bool true)], args := [d] }
  | _ => none }
def fnTakesRow : OpenClaim := { program := "ytkbckgnkbnakkaa", sum := "dd4a80b542c3eb12d2bd828a359272c54931595191449b51e63e458a96c7146b", func := "loop.example/chainfiles/laws.FnTakes", spec := "fnTakes", apart := false }
def FnTakesSaid : Prop := fnTakesRow.holds Try.pinned (OpenSpec.ofChange fnTakesSpec)

/-- ITS FALSE NEIGHBOUR: 'it returns false'. Refute it at one input. -/
def fnTakesWrong : ChangeSpec := { name := "fnTakes", fn := fun _ => fun
  | [d] => { results := [.lit (.bool false)], args := [d] }
  | _ => none }
def FnTakesWrongFalsely : Prop := fnTakesRow.holds Try.pinned (OpenSpec.ofChange fnTakesWrong)

/-- 'laws.FnTakesOld': WHATEVER THE INPUT: true; the input reads as it did. -/
def fnTakesOldSpec : ChangeSpec := { name := "fnTakesOld", fn := fun _ => fun
  | [d] => { results := [.lit (.bool true)], args := [d] }
  | _ => none }
def fnTakesOldRow : OpenClaim := { program := "ytkbckgnkbnakkaa", sum := "dd4a80b542c3eb12d2bd828a359272c54931595191449b51e63e458a96c7146b", func := "loop.example/chainfiles/laws.FnTakesOld", spec := "fnTakesOld", apart := false }
def FnTakesOldSaid : Prop := fnTakesOldRow.holds Try.pinned (OpenSpec.ofChange fnTakesOldSpec)

/-- ITS FALSE NEIGHBOUR: 'it returns false'. Refute it at one input. -/
def fnTakesOldWrong : ChangeSpec := { name := "fnTakesOld", fn := fun _ => fun
  | [d] => { results := [.lit (.bool false)], args := [d] }
  | _ => none }
def FnTakesOldWrongFalsely : Prop := fnTakesOldRow.holds Try.pinned (OpenSpec.ofChange fnTakesOldWrong)

/-- 'laws.FnExactViewTakes': WHATEVER THE INPUT: true; the input reads as it did. -/
def fnExactViewTakesSpec : ChangeSpec := { name := "fnExactViewTakes", fn := fun _ => fun
  | [d1, d2, d3, d4] => { results := [.lit (.bool true)], args := [d1, d2, d3, d4] }
  | _ => none }
def fnExactViewTakesRow : OpenClaim := { program := "ytkbckgnkbnakkaa", sum := "dd4a80b542c3eb12d2bd828a359272c54931595191449b51e63e458a96c7146b", func := "loop.example/chainfiles/laws.FnExactViewTakes", spec := "fnExactViewTakes", apart := false }
def FnExactViewTakesSaid : Prop := fnExactViewTakesRow.holds Try.pinned (OpenSpec.ofChange fnExactViewTakesSpec)

/-- ITS FALSE NEIGHBOUR: 'it returns false'. Refute it at one input. -/
def fnExactViewTakesWrong : ChangeSpec := { name := "fnExactViewTakes", fn := fun _ => fun
  | [d1, d2, d3, d4] => { results := [.lit (.bool false)], args := [d1, d2, d3, d4] }
  | _ => none }
def FnExactViewTakesWrongFalsely : Prop := fnExactViewTakesRow.holds Try.pinned (OpenSpec.ofChange fnExactViewTakesWrong)

/-- 'laws.FnKeys': WHATEVER THE INPUT: true; the input reads as it did. -/
def fnKeysSpec : ChangeSpec := { name := "fnKeys", fn := fun _ => fun
  | [d] => { results := [.lit (.bool true)], args := [d] }
  | _ => none }
def fnKeysRow : OpenClaim := { program := "ytkbckgnkbnakkaa", sum := "dd4a80b542c3eb12d2bd828a359272c54931595191449b51e63e458a96c7146b", func := "loop.example/chainfiles/laws.FnKeys", spec := "fnKeys", apart := false }
def FnKeysSaid : Prop := fnKeysRow.holds Try.pinned (OpenSpec.ofChange fnKeysSpec)

/-- ITS FALSE NEIGHBOUR: 'it returns false'. Refute it at one input. -/
def fnKeysWrong : ChangeSpec := { name := "fnKeys", fn := fun _ => fun
  | [d] => { results := [.lit (.bool false)], args := [d] }
  | _ => none }
def FnKeysWrongFalsely : Prop := fnKeysRow.holds Try.pinned (OpenSpec.ofChange fnKeysWrong)

/-- 'laws.FnExactCountKeys': WHATEVER THE INPUT: true; the input reads as it did. -/
def fnExactCountKeysSpec : ChangeSpec := { name := "fnExactCountKeys", fn := fun _ => fun
  | [d] => { results := [.lit (.bool true)], args := [d] }
  | _ => none }
def fnExactCountKeysRow : OpenClaim := { program := "ytkbckgnkbnakkaa", sum := "dd4a80b542c3eb12d2bd828a359272c54931595191449b51e63e458a96c7146b", func := "loop.example/chainfiles/laws.FnExactCountKeys", spec := "fnExactCountKeys", apart := false }
def FnExactCountKeysSaid : Prop := fnExactCountKeysRow.holds Try.pinned (OpenSpec.ofChange fnExactCountKeysSpec)

/-- ITS FALSE NEIGHBOUR: 'it returns false'. Refute it at one input. -/
def fnExactCountKeysWrong : ChangeSpec := { name := "fnExactCountKeys", fn := fun _ => fun
  | [d] => { results := [.lit (.bool false)], args := [d] }
  | _ => none }
def FnExactCountKeysWrongFalsely : Prop := fnExactCountKeysRow.holds Try.pinned (OpenSpec.ofChange fnExactCountKeysWrong)

/-- 'laws.FnNext': WHATEVER THE INPUT: true; the input reads as it did. -/
def fnNextSpec : ChangeSpec := { name := "fnNext", fn := fun _ => fun
  | [d] => { results := [.lit (.bool true)], args := [d] }
  | _ => none }
def fnNextRow : OpenClaim := { program := "ytkbckgnkbnakkaa", sum := "dd4a80b542c3eb12d2bd828a359272c54931595191449b51e63e458a96c7146b", func := "loop.example/chainfiles/laws.FnNext", spec := "fnNext", apart := false }
def FnNextSaid : Prop := fnNextRow.holds Try.pinned (OpenSpec.ofChange fnNextSpec)

/-- ITS FALSE NEIGHBOUR: 'it returns false'. Refute it at one input. -/
def fnNextWrong : ChangeSpec := { name := "fnNext", fn := fun _ => fun
  | [d] => { results := [.lit (.bool false)], args := [d] }
  | _ => none }
def FnNextWrongFalsely : Prop := fnNextRow.holds Try.pinned (OpenSpec.ofChange fnNextWrong)

/-- 'laws.FnNextOrder': WHATEVER THE INPUT: true; the input reads as it did. -/
def fnNextOrderSpec : ChangeSpec := { name := "fnNextOrder", fn := fun _ => fun
  | [d] => { results := [.lit (.bool true)], args := [d] }
  | _ => none }
def fnNextOrderRow : OpenClaim := { program := "ytkbckgnkbnakkaa", sum := "dd4a80b542c3eb12d2bd828a359272c54931595191449b51e63e458a96c7146b", func := "loop.example/chainfiles/laws.FnNextOrder", spec := "fnNextOrder", apart := false }
def FnNextOrderSaid : Prop := fnNextOrderRow.holds Try.pinned (OpenSpec.ofChange fnNextOrderSpec)

/-- ITS FALSE NEIGHBOUR: 'it returns false'. Refute it at one input. -/
def fnNextOrderWrong : ChangeSpec := { name := "fnNextOrder", fn := fun _ => fun
  | [d] => { results := [.lit (.bool false)], args := [d] }
  | _ => none }
def FnNextOrderWrongFalsely : Prop := fnNextOrderRow.holds Try.pinned (OpenSpec.ofChange fnNextOrderWrong)

/-- 'laws.FnExactViewNext': WHATEVER THE INPUT: true; the input reads as it did. -/
def fnExactViewNextSpec : ChangeSpec := { name := "fnExactViewNext", fn := fun _ => fun
  | [d1, d2, d3] => { results := [.lit (.bool true)], args := [d1, d2, d3] }
  | _ => none }
def fnExactViewNextRow : OpenClaim := { program := "ytkbckgnkbnakkaa", sum := "dd4a80b542c3eb12d2bd828a359272c54931595191449b51e63e458a96c7146b", func := "loop.example/chainfiles/laws.FnExactViewNext", spec := "fnExactViewNext", apart := false }
def FnExactViewNextSaid : Prop := fnExactViewNextRow.holds Try.pinned (OpenSpec.ofChange fnExactViewNextSpec)

/-- ITS FALSE NEIGHBOUR: 'it returns false'. Refute it at one input. -/
def fnExactViewNextWrong : ChangeSpec := { name := "fnExactViewNext", fn := fun _ => fun
  | [d1, d2, d3] => { results := [.lit (.bool false)], args := [d1, d2, d3] }
  | _ => none }
def FnExactViewNextWrongFalsely : Prop := fnExactViewNextRow.holds Try.pinned (OpenSpec.ofChange fnExactViewNextWrong)

/-- 'laws.FnNextTakes': WHATEVER THE INPUT: true; the input reads as it did. -/
def fnNextTakesSpec : ChangeSpec := { name := "fnNextTakes", fn := fun _ => fun
  | [d] => { results := [.lit (.bool true)], args := [d] }
  | _ => none }
def fnNextTakesRow : OpenClaim := { program := "ytkbckgnkbnakkaa", sum := "dd4a80b542c3eb12d2bd828a359272c54931595191449b51e63e458a96c7146b", func := "loop.example/chainfiles/laws.FnNextTakes", spec := "fnNextTakes", apart := false }
def FnNextTakesSaid : Prop := fnNextTakesRow.holds Try.pinned (OpenSpec.ofChange fnNextTakesSpec)

/-- ITS FALSE NEIGHBOUR: 'it returns false'. Refute it at one input. -/
def fnNextTakesWrong : ChangeSpec := { name := "fnNextTakes", fn := fun _ => fun
  | [d] => { results := [.lit (.bool false)], args := [d] }
  | _ => none }
def FnNextTakesWrongFalsely : Prop := fnNextTakesRow.holds Try.pinned (OpenSpec.ofChange fnNextTakesWrong)

/- THE SECOND FORM. 'bulk': how many values and letters a reading holds, each counted each time it is reached (what is shared counts as often as it is met; a slice's spare places count too). A statement '..UptoSaid' is the law's where the arguments, and the package variables that the reading takes, are together of bulk at most 1048576: NARROWER than '..Said'. Prove '..Said' where nothing that the law and all that it calls make is longer than what came in: it says more and counts as full. Else prove '..UptoSaid'. A law counts once. -/
mutual
def uptoBulk {H : Type} : DataW H → Nat
  | .lit (.string bytes) => bytes.length + 1
  | .lit _ => 1
  | .nil => 1
  | .ptr d => uptoBulk d + 1
  | .slice elems spare => uptoBulkAll elems + uptoBulkAll spare + 1
  | .agg parts => uptoBulkAll parts + 1
  | .iface _ d => uptoBulk d + 1
  | .map entries => uptoBulkEntries entries + 1
  | .held _ => 1
def uptoBulkAll {H : Type} : List (DataW H) → Nat
  | [] => 0
  | d :: r => uptoBulk d + uptoBulkAll r
def uptoBulkEntries {H : Type} : List (Lit × DataW H) → Nat
  | [] => 0
  | x :: r => uptoBulkEntry x + uptoBulkEntries r
def uptoBulkEntry {H : Type} : Lit × DataW H → Nat
  | (.string bytes, d) => bytes.length + uptoBulk d + 1
  | (_, d) => uptoBulk d + 1
 end
def uptoSmall : (H : Type) → List (DataW H) → Bool := fun _ ds => decide (uptoBulkAll ds ≤ 1048576)
def OpenSpec.upto (s : _root_.Go.ChangeSpec) : _root_.Go.OpenSpec := { _root_.Go.OpenSpec.ofChange s with cond := some uptoSmall }

/-- 'laws.FnViewPart', WHERE WHAT IT READS IS OF BULK AT MOST 1048576: true; the input reads as it did. -/
def fnViewPartUptoRow : OpenClaim := { program := "ytkbckgnkbnakkaa", sum := "dd4a80b542c3eb12d2bd828a359272c54931595191449b51e63e458a96c7146b", func := "loop.example/chainfiles/laws.FnViewPart", spec := "fnViewPart", apart := false, narrowed := true }
def FnViewPartUptoSaid : Prop := fnViewPartUptoRow.holds Try.pinned (OpenSpec.upto fnViewPartSpec)

/-- 'laws.FnExactViewValid', WHERE WHAT IT READS IS OF BULK AT MOST 1048576: true; the input reads as it did. -/
def fnExactViewValidUptoRow : OpenClaim := { program := "ytkbckgnkbnakkaa", sum := "dd4a80b542c3eb12d2bd828a359272c54931595191449b51e63e458a96c7146b", func := "loop.example/chainfiles/laws.FnExactViewValid", spec := "fnExactViewValid", apart := false, narrowed := true }
def FnExactViewValidUptoSaid : Prop := fnExactViewValidUptoRow.holds Try.pinned (OpenSpec.upto fnExactViewValidSpec)

/-- 'laws.FnTakesAll', WHERE WHAT IT READS IS OF BULK AT MOST 1048576: true; the input reads as it did. -/
def fnTakesAllUptoRow : OpenClaim := { program := "ytkbckgnkbnakkaa", sum := "dd4a80b542c3eb12d2bd828a359272c54931595191449b51e63e458a96c7146b", func := "loop.example/chainfiles/laws.FnTakesAll", spec := "fnTakesAll", apart := false, narrowed := true }
def FnTakesAllUptoSaid : Prop := fnTakesAllUptoRow.holds Try.pinned (OpenSpec.upto fnTakesAllSpec)

/-- 'laws.FnTakes', WHERE WHAT IT READS IS OF BULK AT MOST 1048576: true; the input reads as it did. -/
def fnTakesUptoRow : OpenClaim := { program := "ytkbckgnkbnakkaa", sum := "dd4a80b542c3eb12d2bd828a359272c54931595191449b51e63e458a96c7146b", func := "loop.example/chainfiles/laws.FnTakes", spec := "fnTakes", apart := false, narrowed := true }
def FnTakesUptoSaid : Prop := fnTakesUptoRow.holds Try.pinned (OpenSpec.upto fnTakesSpec)

/-- 'laws.FnTakesOld', WHERE WHAT IT READS IS OF BULK AT MOST 1048576: true; the input reads as it did. -/
def fnTakesOldUptoRow : OpenClaim := { program := "ytkbckgnkbnakkaa", sum := "dd4a80b542c3eb12d2bd828a359272c54931595191449b51e63e458a96c7146b", func := "loop.example/chainfiles/laws.FnTakesOld", spec := "fnTakesOld", apart := false, narrowed := true }
def FnTakesOldUptoSaid : Prop := fnTakesOldUptoRow.holds Try.pinned (OpenSpec.upto fnTakesOldSpec)

/-- 'laws.FnExactViewTakes', WHERE WHAT IT READS IS OF BULK AT MOST 1048576: true; the input reads as it did. -/
def fnExactViewTakesUptoRow : OpenClaim := { program := "ytkbckgnkbnakkaa", sum := "dd4a80b542c3eb12d2bd828a359272c54931595191449b51e63e458a96c7146b", func := "loop.example/chainfiles/laws.FnExactViewTakes", spec := "fnExactViewTakes", apart := false, narrowed := true }
def FnExactViewTakesUptoSaid : Prop := fnExactViewTakesUptoRow.holds Try.pinned (OpenSpec.upto fnExactViewTakesSpec)

/-- 'laws.FnKeys', WHERE WHAT IT READS IS OF BULK AT MOST 1048576: true; the input reads as it did. -/
def fnKeysUptoRow : OpenClaim := { program := "ytkbckgnkbnakkaa", sum := "dd4a80b542c3eb12d2bd828a359272c54931595191449b51e63e458a96c7146b", func := "loop.example/chainfiles/laws.FnKeys", spec := "fnKeys", apart := false, narrowed := true }
def FnKeysUptoSaid : Prop := fnKeysUptoRow.holds Try.pinned (OpenSpec.upto fnKeysSpec)

/-- 'laws.FnExactCountKeys', WHERE WHAT IT READS IS OF BULK AT MOST 1048576: true; the input reads as it did. -/
def fnExactCountKeysUptoRow : OpenClaim := { program := "ytkbckgnkbnakkaa", sum := "dd4a80b542c3eb12d2bd828a359272c54931595191449b51e63e458a96c7146b", func := "loop.example/chainfiles/laws.FnExactCountKeys", spec := "fnExactCountKeys", apart := false, narrowed := true }
def FnExactCountKeysUptoSaid : Prop := fnExactCountKeysUptoRow.holds Try.pinned (OpenSpec.upto fnExactCountKeysSpec)

/-- 'laws.FnNext', WHERE WHAT IT READS IS OF BULK AT MOST 1048576: true; the input reads as it did. -/
def fnNextUptoRow : OpenClaim := { program := "ytkbckgnkbnakkaa", sum := "dd4a80b542c3eb12d2bd828a359272c54931595191449b51e63e458a96c7146b", func := "loop.example/chainfiles/laws.FnNext", spec := "fnNext", apart := false, narrowed := true }
def FnNextUptoSaid : Prop := fnNextUptoRow.holds Try.pinned (OpenSpec.upto fnNextSpec)

/-- 'laws.FnNextOrder', WHERE WHAT IT READS IS OF BULK AT MOST 1048576: true; the input reads as it did. -/
def fnNextOrderUptoRow : OpenClaim := { program := "ytkbckgnkbnakkaa", sum := "dd4a80b542c3eb12d2bd828a359272c54931595191449b51e63e458a96c7146b", func := "loop.example/chainfiles/laws.FnNextOrder", spec := "fnNextOrder", apart := false, narrowed := true }
def FnNextOrderUptoSaid : Prop := fnNextOrderUptoRow.holds Try.pinned (OpenSpec.upto fnNextOrderSpec)

/-- 'laws.FnExactViewNext', WHERE WHAT IT READS IS OF BULK AT MOST 1048576: true; the input reads as it did. -/
def fnExactViewNextUptoRow : OpenClaim := { program := "ytkbckgnkbnakkaa", sum := "dd4a80b542c3eb12d2bd828a359272c54931595191449b51e63e458a96c7146b", func := "loop.example/chainfiles/laws.FnExactViewNext", spec := "fnExactViewNext", apart := false, narrowed := true }
def FnExactViewNextUptoSaid : Prop := fnExactViewNextUptoRow.holds Try.pinned (OpenSpec.upto fnExactViewNextSpec)

/-- 'laws.FnNextTakes', WHERE WHAT IT READS IS OF BULK AT MOST 1048576: true; the input reads as it did. -/
def fnNextTakesUptoRow : OpenClaim := { program := "ytkbckgnkbnakkaa", sum := "dd4a80b542c3eb12d2bd828a359272c54931595191449b51e63e458a96c7146b", func := "loop.example/chainfiles/laws.FnNextTakes", spec := "fnNextTakes", apart := false, narrowed := true }
def FnNextTakesUptoSaid : Prop := fnNextTakesUptoRow.holds Try.pinned (OpenSpec.upto fnNextTakesSpec)

end Rows
end Go.Proofs.Ytkbckgnkbnakkaa
