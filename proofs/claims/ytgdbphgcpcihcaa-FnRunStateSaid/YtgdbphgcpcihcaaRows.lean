/-
  No cell of these rows narrows 'for every input' (looked for: loops, veiled, ifaces, maps, wideKeys, modest, calm, conditions, laid).
  DERIVED. THE GIVEN ROWS OF THIS SEAT. 8 by the template 'for every input the law returns true; each argument reads behind the call as it read before'; 0 by the template 'total and deterministic' (their statements: YtgdbphgcpcihcaaTotals.lean).
  GIVEN WITH THE SEED: the statements are not yours to turn. If you find one false, say at which input.
  Laid BY PROGRAM, IN A SANDBOX (cutbox-rows.mjs): the forced cells as the released guide's own fill.sh prints them over the translation ed5f59a095fcf999… (all of the seat's roots in one cut). By AI agents, Wed Nov 11 2026. No macro, syntax, notation, axiom, sorry.
-/
import Derived.Test.YtgdbphgcpcihcaaChecked
import GoSem.Claim
import GoSem.ClaimJoined
import GoSem.ClaimMapViews
import Derived.JoinedTies
import Derived.KernelRfl
namespace Go.Proofs.Ytgdbphgcpcihcaa
/- THE CELL 'sum', in the pinned program and in every row, IS THE sha256 OF THE DUMP (.gsa) THAT YtgdbphgcpcihcaaProg.lean LOADS. Nothing in Lean hashes anything: it is a label: what it is worth is what the hold of that sum in a sandbox is worth. -/
noncomputable def Try.pinned : Pinned := { name := "ytgdbphgcpcihcaa", sum := "ed5f59a095fcf99954be8b746842a9f68f8978aecf0ddd03b06c05b0ba5763e6", checked := Try.checked }
namespace Rows
def none {H : Type} : Left H := { results := [], args := [] }

/-- 'laws.FnBaseNew': WHATEVER THE INPUT: true; the input reads as it did. -/
def fnBaseNewSpec : ChangeSpec := { name := "fnBaseNew", fn := fun _ => fun
  | [d] => { results := [.lit (.bool true)], args := [d] }
  | _ => none }
def fnBaseNewRow : OpenClaim := { program := "ytgdbphgcpcihcaa", sum := "ed5f59a095fcf99954be8b746842a9f68f8978aecf0ddd03b06c05b0ba5763e6", func := "loop.example/chainfiles/laws.FnBaseNew", spec := "fnBaseNew", apart := false }
def FnBaseNewSaid : Prop := fnBaseNewRow.holds Try.pinned (OpenSpec.ofChange fnBaseNewSpec)

/-- ITS FALSE NEIGHBOUR: 'it returns false'. Refute it at one input. -/
def fnBaseNewWrong : ChangeSpec := { name := "fnBaseNew", fn := fun _ => fun
  | [d] => { results := [.lit (.bool false)], args := [d] }
  | _ => none }
def FnBaseNewWrongFalsely : Prop := fnBaseNewRow.holds Try.pinned (OpenSpec.ofChange fnBaseNewWrong)

/-- 'laws.FnOldLong': WHATEVER THE INPUT: true; the input reads as it did. -/
def fnOldLongSpec : ChangeSpec := { name := "fnOldLong", fn := fun _ => fun
  | [d] => { results := [.lit (.bool true)], args := [d] }
  | _ => none }
def fnOldLongRow : OpenClaim := { program := "ytgdbphgcpcihcaa", sum := "ed5f59a095fcf99954be8b746842a9f68f8978aecf0ddd03b06c05b0ba5763e6", func := "loop.example/chainfiles/laws.FnOldLong", spec := "fnOldLong", apart := false }
def FnOldLongSaid : Prop := fnOldLongRow.holds Try.pinned (OpenSpec.ofChange fnOldLongSpec)

/-- ITS FALSE NEIGHBOUR: 'it returns false'. Refute it at one input. -/
def fnOldLongWrong : ChangeSpec := { name := "fnOldLong", fn := fun _ => fun
  | [d] => { results := [.lit (.bool false)], args := [d] }
  | _ => none }
def FnOldLongWrongFalsely : Prop := fnOldLongRow.holds Try.pinned (OpenSpec.ofChange fnOldLongWrong)

/-- 'laws.FnRunState': WHATEVER THE INPUT: true; the input reads as it did. -/
def fnRunStateSpec : ChangeSpec := { name := "fnRunState", fn := fun _ => fun
  | [d] => { results := [.lit (.bool true)], args := [d] }
  | _ => none }
def fnRunStateRow : OpenClaim := { program := "ytgdbphgcpcihcaa", sum := "ed5f59a095fcf99954be8b746842a9f68f8978aecf0ddd03b06c05b0ba5763e6", func := "loop.example/chainfiles/laws.FnRunState", spec := "fnRunState", unfollowed := true, recurses := true, apart := false }
def FnRunStateSaid : Prop := fnRunStateRow.holds Try.pinned (OpenSpec.ofChange fnRunStateSpec)

/-- ITS FALSE NEIGHBOUR: 'it returns false'. Refute it at one input. -/
def fnRunStateWrong : ChangeSpec := { name := "fnRunState", fn := fun _ => fun
  | [d] => { results := [.lit (.bool false)], args := [d] }
  | _ => none }
def FnRunStateWrongFalsely : Prop := fnRunStateRow.holds Try.pinned (OpenSpec.ofChange fnRunStateWrong)

/-- 'laws.FnExactBaseOld': WHATEVER THE INPUT: true; the input reads as it did. -/
def fnExactBaseOldSpec : ChangeSpec := { name := "fnExactBaseOld", fn := fun _ => fun
  | [d1, d2] => { results := [.lit (.bool true)], args := [d1, d2] }
  | _ => none }
def fnExactBaseOldRow : OpenClaim := { program := "ytgdbphgcpcihcaa", sum := "ed5f59a095fcf99954be8b746842a9f68f8978aecf0ddd03b06c05b0ba5763e6", func := "loop.example/chainfiles/laws.FnExactBaseOld", spec := "fnExactBaseOld", apart := false }
def FnExactBaseOldSaid : Prop := fnExactBaseOldRow.holds Try.pinned (OpenSpec.ofChange fnExactBaseOldSpec)

/-- ITS FALSE NEIGHBOUR: 'it returns false'. Refute it at one input. -/
def fnExactBaseOldWrong : ChangeSpec := { name := "fnExactBaseOld", fn := fun _ => fun
  | [d1, d2] => { results := [.lit (.bool false)], args := [d1, d2] }
  | _ => none }
def FnExactBaseOldWrongFalsely : Prop := fnExactBaseOldRow.holds Try.pinned (OpenSpec.ofChange fnExactBaseOldWrong)

/-- 'laws.FnOld': WHATEVER THE INPUT: true; the input reads as it did. -/
def fnOldSpec : ChangeSpec := { name := "fnOld", fn := fun _ => fun
  | [d] => { results := [.lit (.bool true)], args := [d] }
  | _ => none }
def fnOldRow : OpenClaim := { program := "ytgdbphgcpcihcaa", sum := "ed5f59a095fcf99954be8b746842a9f68f8978aecf0ddd03b06c05b0ba5763e6", func := "loop.example/chainfiles/laws.FnOld", spec := "fnOld", apart := false }
def FnOldSaid : Prop := fnOldRow.holds Try.pinned (OpenSpec.ofChange fnOldSpec)

/-- ITS FALSE NEIGHBOUR: 'it returns false'. Refute it at one input. -/
def fnOldWrong : ChangeSpec := { name := "fnOld", fn := fun _ => fun
  | [d] => { results := [.lit (.bool false)], args := [d] }
  | _ => none }
def FnOldWrongFalsely : Prop := fnOldRow.holds Try.pinned (OpenSpec.ofChange fnOldWrong)

/-- 'laws.FnBaseAll': WHATEVER THE INPUT: true; the input reads as it did. -/
def fnBaseAllSpec : ChangeSpec := { name := "fnBaseAll", fn := fun _ => fun
  | [d] => { results := [.lit (.bool true)], args := [d] }
  | _ => none }
def fnBaseAllRow : OpenClaim := { program := "ytgdbphgcpcihcaa", sum := "ed5f59a095fcf99954be8b746842a9f68f8978aecf0ddd03b06c05b0ba5763e6", func := "loop.example/chainfiles/laws.FnBaseAll", spec := "fnBaseAll", unfollowed := true, recurses := true, apart := false }
def FnBaseAllSaid : Prop := fnBaseAllRow.holds Try.pinned (OpenSpec.ofChange fnBaseAllSpec)

/-- ITS FALSE NEIGHBOUR: 'it returns false'. Refute it at one input. -/
def fnBaseAllWrong : ChangeSpec := { name := "fnBaseAll", fn := fun _ => fun
  | [d] => { results := [.lit (.bool false)], args := [d] }
  | _ => none }
def FnBaseAllWrongFalsely : Prop := fnBaseAllRow.holds Try.pinned (OpenSpec.ofChange fnBaseAllWrong)

/-- 'laws.FnExactBaseOf': WHATEVER THE INPUT: true; the input reads as it did. -/
def fnExactBaseOfSpec : ChangeSpec := { name := "fnExactBaseOf", fn := fun _ => fun
  | [d] => { results := [.lit (.bool true)], args := [d] }
  | _ => none }
def fnExactBaseOfRow : OpenClaim := { program := "ytgdbphgcpcihcaa", sum := "ed5f59a095fcf99954be8b746842a9f68f8978aecf0ddd03b06c05b0ba5763e6", func := "loop.example/chainfiles/laws.FnExactBaseOf", spec := "fnExactBaseOf", apart := false }
def FnExactBaseOfSaid : Prop := fnExactBaseOfRow.holds Try.pinned (OpenSpec.ofChange fnExactBaseOfSpec)

/-- ITS FALSE NEIGHBOUR: 'it returns false'. Refute it at one input. -/
def fnExactBaseOfWrong : ChangeSpec := { name := "fnExactBaseOf", fn := fun _ => fun
  | [d] => { results := [.lit (.bool false)], args := [d] }
  | _ => none }
def FnExactBaseOfWrongFalsely : Prop := fnExactBaseOfRow.holds Try.pinned (OpenSpec.ofChange fnExactBaseOfWrong)

/-- 'laws.FnExactBaseRun': WHATEVER THE INPUT: true; the input reads as it did. -/
def fnExactBaseRunSpec : ChangeSpec := { name := "fnExactBaseRun", fn := fun _ => fun
  | [d1, d2] => { results := [.lit (.bool true)], args := [d1, d2] }
  | _ => none }
def fnExactBaseRunRow : OpenClaim := { program := "ytgdbphgcpcihcaa", sum := "ed5f59a095fcf99954be8b746842a9f68f8978aecf0ddd03b06c05b0ba5763e6", func := "loop.example/chainfiles/laws.FnExactBaseRun", spec := "fnExactBaseRun", unfollowed := true, recurses := true, apart := false }
def FnExactBaseRunSaid : Prop := fnExactBaseRunRow.holds Try.pinned (OpenSpec.ofChange fnExactBaseRunSpec)

/-- ITS FALSE NEIGHBOUR: 'it returns false'. Refute it at one input. -/
def fnExactBaseRunWrong : ChangeSpec := { name := "fnExactBaseRun", fn := fun _ => fun
  | [d1, d2] => { results := [.lit (.bool false)], args := [d1, d2] }
  | _ => none }
def FnExactBaseRunWrongFalsely : Prop := fnExactBaseRunRow.holds Try.pinned (OpenSpec.ofChange fnExactBaseRunWrong)

/- THE SECOND FORM. 'bulk': how many values and letters a reading holds, each counted each time it is reached (what is shared counts as often as it is met; a slice's spare places count too). A statement '..UptoSaid' is the law's where the arguments, and the package variables that the reading takes, are together of bulk at most 1048576: NARROWER than '..Said'. Prove '..Said' where nothing that the law and all that it calls make is longer than what came in: it says more and counts as full. Else prove '..UptoSaid'. A law counts once. -/
mutual
def uptoBulk {H : Type} : DataW H → Nat
  | .lit (.string bytes) => bytes.length + 1
  | .lit _ => 1
  | .nil => 1
  | .ptr d => uptoBulk d + 1
  | .slice elems spare => uptoBulkAll elems + uptoBulkAll spare + 1
  | .agg parts => uptoBulkAll parts + 1
  | .iface _ d => uptoBulk d + 1
  | .map entries => uptoBulkEntries entries + 1
  | .held _ => 1
def uptoBulkAll {H : Type} : List (DataW H) → Nat
  | [] => 0
  | d :: r => uptoBulk d + uptoBulkAll r
def uptoBulkEntries {H : Type} : List (Lit × DataW H) → Nat
  | [] => 0
  | x :: r => uptoBulkEntry x + uptoBulkEntries r
def uptoBulkEntry {H : Type} : Lit × DataW H → Nat
  | (.string bytes, d) => bytes.length + uptoBulk d + 1
  | (_, d) => uptoBulk d + 1
 end
def uptoSmall : (H : Type) → List (DataW H) → Bool := fun _ ds => decide (uptoBulkAll ds ≤ 1048576)
def OpenSpec.upto (s : _root_.Go.ChangeSpec) : _root_.Go.OpenSpec := { _root_.Go.OpenSpec.ofChange s with cond := some uptoSmall }

/-- 'laws.FnBaseNew', WHERE WHAT IT READS IS OF BULK AT MOST 1048576: true; the input reads as it did. -/
def fnBaseNewUptoRow : OpenClaim := { program := "ytgdbphgcpcihcaa", sum := "ed5f59a095fcf99954be8b746842a9f68f8978aecf0ddd03b06c05b0ba5763e6", func := "loop.example/chainfiles/laws.FnBaseNew", spec := "fnBaseNew", apart := false, narrowed := true }
def FnBaseNewUptoSaid : Prop := fnBaseNewUptoRow.holds Try.pinned (OpenSpec.upto fnBaseNewSpec)

/-- 'laws.FnOldLong', WHERE WHAT IT READS IS OF BULK AT MOST 1048576: true; the input reads as it did. -/
def fnOldLongUptoRow : OpenClaim := { program := "ytgdbphgcpcihcaa", sum := "ed5f59a095fcf99954be8b746842a9f68f8978aecf0ddd03b06c05b0ba5763e6", func := "loop.example/chainfiles/laws.FnOldLong", spec := "fnOldLong", apart := false, narrowed := true }
def FnOldLongUptoSaid : Prop := fnOldLongUptoRow.holds Try.pinned (OpenSpec.upto fnOldLongSpec)

/-- 'laws.FnRunState', WHERE WHAT IT READS IS OF BULK AT MOST 1048576: true; the input reads as it did. -/
def fnRunStateUptoRow : OpenClaim := { program := "ytgdbphgcpcihcaa", sum := "ed5f59a095fcf99954be8b746842a9f68f8978aecf0ddd03b06c05b0ba5763e6", func := "loop.example/chainfiles/laws.FnRunState", spec := "fnRunState", unfollowed := true, recurses := true, apart := false, narrowed := true }
def FnRunStateUptoSaid : Prop := fnRunStateUptoRow.holds Try.pinned (OpenSpec.upto fnRunStateSpec)

/-- 'laws.FnExactBaseOld', WHERE WHAT IT READS IS OF BULK AT MOST 1048576: true; the input reads as it did. -/
def fnExactBaseOldUptoRow : OpenClaim := { program := "ytgdbphgcpcihcaa", sum := "ed5f59a095fcf99954be8b746842a9f68f8978aecf0ddd03b06c05b0ba5763e6", func := "loop.example/chainfiles/laws.FnExactBaseOld", spec := "fnExactBaseOld", apart := false, narrowed := true }
def FnExactBaseOldUptoSaid : Prop := fnExactBaseOldUptoRow.holds Try.pinned (OpenSpec.upto fnExactBaseOldSpec)

/-- 'laws.FnOld', WHERE WHAT IT READS IS OF BULK AT MOST 1048576: true; the input reads as it did. -/
def fnOldUptoRow : OpenClaim := { program := "ytgdbphgcpcihcaa", sum := "ed5f59a095fcf99954be8b746842a9f68f8978aecf0ddd03b06c05b0ba5763e6", func := "loop.example/chainfiles/laws.FnOld", spec := "fnOld", apart := false, narrowed := true }
def FnOldUptoSaid : Prop := fnOldUptoRow.holds Try.pinned (OpenSpec.upto fnOldSpec)

/-- 'laws.FnBaseAll', WHERE WHAT IT READS IS OF BULK AT MOST 1048576: true; the input reads as it did. -/
def fnBaseAllUptoRow : OpenClaim := { program := "ytgdbphgcpcihcaa", sum := "ed5f59a095fcf99954be8b746842a9f68f8978aecf0ddd03b06c05b0ba5763e6", func := "loop.example/chainfiles/laws.FnBaseAll", spec := "fnBaseAll", unfollowed := true, recurses := true, apart := false, narrowed := true }
def FnBaseAllUptoSaid : Prop := fnBaseAllUptoRow.holds Try.pinned (OpenSpec.upto fnBaseAllSpec)

/-- 'laws.FnExactBaseOf', WHERE WHAT IT READS IS OF BULK AT MOST 1048576: true; the input reads as it did. -/
def fnExactBaseOfUptoRow : OpenClaim := { program := "ytgdbphgcpcihcaa", sum := "ed5f59a095fcf99954be8b746842a9f68f8978aecf0ddd03b06c05b0ba5763e6", func := "loop.example/chainfiles/laws.FnExactBaseOf", spec := "fnExactBaseOf", apart := false, narrowed := true }
def FnExactBaseOfUptoSaid : Prop := fnExactBaseOfUptoRow.holds Try.pinned (OpenSpec.upto fnExactBaseOfSpec)

/-- 'laws.FnExactBaseRun', WHERE WHAT IT READS IS OF BULK AT MOST 1048576: true; the input reads as it did. -/
def fnExactBaseRunUptoRow : OpenClaim := { program := "ytgdbphgcpcihcaa", sum := "ed5f59a095fcf99954be8b746842a9f68f8978aecf0ddd03b06c05b0ba5763e6", func := "loop.example/chainfiles/laws.FnExactBaseRun", spec := "fnExactBaseRun", unfollowed := true, recurses := true, apart := false, narrowed := true }
def FnExactBaseRunUptoSaid : Prop := fnExactBaseRunUptoRow.holds Try.pinned (OpenSpec.upto fnExactBaseRunSpec)

end Rows
end Go.Proofs.Ytgdbphgcpcihcaa
