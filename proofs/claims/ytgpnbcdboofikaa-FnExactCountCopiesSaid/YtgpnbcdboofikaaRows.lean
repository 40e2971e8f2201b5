/-
  No cell of these rows narrows 'for every input' (looked for: loops, veiled, ifaces, maps, wideKeys, modest, calm, conditions, laid).
  DERIVED. THE GIVEN ROWS OF THIS SEAT. 11 by the template 'for every input the law returns true; each argument reads behind the call as it read before'; 0 by the template 'total and deterministic' (their statements: YtgpnbcdboofikaaTotals.lean).
  GIVEN WITH THE SEED: the statements are not yours to turn. If you find one false, say at which input.
  Laid BY PROGRAM, IN A SANDBOX (cutbox-rows.mjs): the forced cells as the released guide's own fill.sh prints them over the translation d836e90605c102ca… (all of the seat's roots in one cut). By AI agents, Wed Nov 11 2026. No macro, syntax, notation, axiom, sorry.
-/
import Derived.Test.YtgpnbcdboofikaaChecked
import GoSem.Claim
import GoSem.ClaimJoined
import GoSem.ClaimMapViews
import Derived.JoinedTies
import Derived.KernelRfl
namespace Go.Proofs.Ytgpnbcdboofikaa
/- THE CELL 'sum', in the pinned program and in every row, IS THE sha256 OF THE DUMP (.gsa) THAT YtgpnbcdboofikaaProg.lean LOADS. Nothing in Lean hashes anything: it is a label: what it is worth is what the hold of that sum in a sandbox is worth. -/
noncomputable def Try.pinned : Pinned := { name := "ytgpnbcdboofikaa", sum := "d836e90605c102cacea179999eed44e4b340633224ad633c89c5140a8241d679", checked := Try.checked }
namespace Rows
def none {H : Type} : Left H := { results := [], args := [] }

/-- 'laws.FnCopies': WHATEVER THE INPUT: true; the input reads as it did. -/
def fnCopiesSpec : ChangeSpec := { name := "fnCopies", fn := fun _ => fun
  | [d] => { results := [.lit (.bool true)], args := [d] }
  | _ => none }
def fnCopiesRow : OpenClaim := { program := "ytgpnbcdboofikaa", sum := "d836e90605c102cacea179999eed44e4b340633224ad633c89c5140a8241d679", func := "loop.example/chainfiles/laws.FnCopies", spec := "fnCopies", apart := false }
def FnCopiesSaid : Prop := fnCopiesRow.holds Try.pinned (OpenSpec.ofChange fnCopiesSpec)

/-- ITS FALSE NEIGHBOUR: 'it returns false'. Refute it at one input. -/
def fnCopiesWrong : ChangeSpec := { name := "fnCopies", fn := fun _ => fun
  | [d] => { results := [.lit (.bool false)], args := [d] }
  | _ => none }
def FnCopiesWrongFalsely : Prop := fnCopiesRow.holds Try.pinned (OpenSpec.ofChange fnCopiesWrong)

/-- 'laws.FnCopiesLag': WHATEVER THE INPUT: true; the input reads as it did. -/
def fnCopiesLagSpec : ChangeSpec := { name := "fnCopiesLag", fn := fun _ => fun
  | [d] => { results := [.lit (.bool true)], args := [d] }
  | _ => none }
def fnCopiesLagRow : OpenClaim := { program := "ytgpnbcdboofikaa", sum := "d836e90605c102cacea179999eed44e4b340633224ad633c89c5140a8241d679", func := "loop.example/chainfiles/laws.FnCopiesLag", spec := "fnCopiesLag", apart := false }
def FnCopiesLagSaid : Prop := fnCopiesLagRow.holds Try.pinned (OpenSpec.ofChange fnCopiesLagSpec)

/-- ITS FALSE NEIGHBOUR: 'it returns false'. Refute it at one input. -/
def fnCopiesLagWrong : ChangeSpec := { name := "fnCopiesLag", fn := fun _ => fun
  | [d] => { results := [.lit (.bool false)], args := [d] }
  | _ => none }
def FnCopiesLagWrongFalsely : Prop := fnCopiesLagRow.holds Try.pinned (OpenSpec.ofChange fnCopiesLagWrong)

/-- 'laws.FnCopiesDone': WHATEVER THE INPUT: true; the input reads as it did. -/
def fnCopiesDoneSpec : ChangeSpec := { name := "fnCopiesDone", fn := fun _ => fun
  | [d] => { results := [.lit (.bool true)], args := [d] }
  | _ => none }
def fnCopiesDoneRow : OpenClaim := { program := "ytgpnbcdboofikaa", sum := "d836e90605c102cacea179999eed44e4b340633224ad633c89c5140a8241d679", func := "loop.example/chainfiles/laws.FnCopiesDone", spec := "fnCopiesDone", apart := false }
def FnCopiesDoneSaid : Prop := fnCopiesDoneRow.holds Try.pinned (OpenSpec.ofChange fnCopiesDoneSpec)

/-- ITS FALSE NEIGHBOUR: 'it returns false'. Refute it at one input. -/
def fnCopiesDoneWrong : ChangeSpec := { name := "fnCopiesDone", fn := fun _ => fun
  | [d] => { results := [.lit (.bool false)], args := [d] }
  | _ => none }
def FnCopiesDoneWrongFalsely : Prop := fnCopiesDoneRow.holds Try.pinned (OpenSpec.ofChange fnCopiesDoneWrong)

/-- 'laws.FnViewOf': WHATEVER THE INPUT: true; the input reads as it did. -/
def fnViewOfSpec : ChangeSpec := { name := "fnViewOf", fn := fun _ => fun
  | [d] => { results := [.lit (.bool true)], args := [d] }
  | _ => none }
def fnViewOfRow : OpenClaim := { program := "ytgpnbcdboofikaa", sum := "d836e90605c102cacea179999eed44e4b340633224ad633c89c5140a8241d679", func := "loop.example/chainfiles/laws.FnViewOf", spec := "fnViewOf", apart := false }
def FnViewOfSaid : Prop := fnViewOfRow.holds Try.pinned (OpenSpec.ofChange fnViewOfSpec)

/-- ITS FALSE NEIGHBOUR: 'it returns false'. Refute it at one input. -/
def fnViewOfWrong : ChangeSpec := { name := "fnViewOf", fn := fun _ => fun
  | [d] => { results := [.lit (.bool false)], args := [d] }
  | _ => none }
def FnViewOfWrongFalsely : Prop := fnViewOfRow.holds Try.pinned (OpenSpec.ofChange fnViewOfWrong)

/-- 'laws.FnSafe': WHATEVER THE INPUT: true; the input reads as it did. -/
def fnSafeSpec : ChangeSpec := { name := "fnSafe", fn := fun _ => fun
  | [d] => { results := [.lit (.bool true)], args := [d] }
  | _ => none }
def fnSafeRow : OpenClaim := { program := "ytgpnbcdboofikaa", sum := "d836e90605c102cacea179999eed44e4b340633224ad633c89c5140a8241d679", func := "loop.example/chainfiles/laws.FnSafe", spec := "fnSafe", apart := false }
def FnSafeSaid : Prop := fnSafeRow.holds Try.pinned (OpenSpec.ofChange fnSafeSpec)

/-- ITS FALSE NEIGHBOUR: 'it returns false'. Refute it at one input. -/
def fnSafeWrong : ChangeSpec := { name := "fnSafe", fn := fun _ => fun
  | [d] => { results := [.lit (.bool false)], args := [d] }
  | _ => none }
def FnSafeWrongFalsely : Prop := fnSafeRow.holds Try.pinned (OpenSpec.ofChange fnSafeWrong)

/-- 'laws.FnSafeTail': WHATEVER THE INPUT: true; the input reads as it did. -/
def fnSafeTailSpec : ChangeSpec := { name := "fnSafeTail", fn := fun _ => fun
  | [d] => { results := [.lit (.bool true)], args := [d] }
  | _ => none }
def fnSafeTailRow : OpenClaim := { program := "ytgpnbcdboofikaa", sum := "d836e90605c102cacea179999eed44e4b340633224ad633c89c5140a8241d679", func := "loop.example/chainfiles/laws.FnSafeTail", spec := "fnSafeTail", apart := false }
def FnSafeTailSaid : Prop := fnSafeTailRow.holds Try.pinned (OpenSpec.ofChange fnSafeTailSpec)

/-- ITS FALSE NEIGHBOUR: 'it returns false'. Refute it at one input. -/
def fnSafeTailWrong : ChangeSpec := { name := "fnSafeTail", fn := fun _ => fun
  | [d] => { results := [.lit (.bool false)], args := [d] }
  | _ => none }
def FnSafeTailWrongFalsely : Prop := fnSafeTailRow.holds Try.pinned (OpenSpec.ofChange fnSafeTailWrong)

/-- 'laws.FnSafeDrop': WHATEVER THE INPUT: true; the input reads as it did. -/
def fnSafeDropSpec : ChangeSpec := { name := "fnSafeDrop", fn := fun _ => fun
  | [d1, d2] => { results := [.lit (.bool true)], args := [d1, d2] }
  | _ => none }
def fnSafeDropRow : OpenClaim := { program := "ytgpnbcdboofikaa", sum := "d836e90605c102cacea179999eed44e4b340633224ad633c89c5140a8241d679", func := "loop.example/chainfiles/laws.FnSafeDrop", spec := "fnSafeDrop", apart := false }
def FnSafeDropSaid : Prop := fnSafeDropRow.holds Try.pinned (OpenSpec.ofChange fnSafeDropSpec)

/-- ITS FALSE NEIGHBOUR: 'it returns false'. Refute it at one input. -/
def fnSafeDropWrong : ChangeSpec := { name := "fnSafeDrop", fn := fun _ => fun
  | [d1, d2] => { results := [.lit (.bool false)], args := [d1, d2] }
  | _ => none }
def FnSafeDropWrongFalsely : Prop := fnSafeDropRow.holds Try.pinned (OpenSpec.ofChange fnSafeDropWrong)

/-- 'laws.FnExactCountSafe': WHATEVER THE INPUT: true; the input reads as it did. -/
def fnExactCountSafeSpec : ChangeSpec := { name := "fnExactCountSafe", fn := fun _ => fun
  | [d1, d2] => { results := [.lit (.bool true)], args := [d1, d2] }
  | _ => none }
def fnExactCountSafeRow : OpenClaim := { program := "ytgpnbcdboofikaa", sum := "d836e90605c102cacea179999eed44e4b340633224ad633c89c5140a8241d679", func := "loop.example/chainfiles/laws.FnExactCountSafe", spec := "fnExactCountSafe", apart := false }
def FnExactCountSafeSaid : Prop := fnExactCountSafeRow.holds Try.pinned (OpenSpec.ofChange fnExactCountSafeSpec)

/-- ITS FALSE NEIGHBOUR: 'it returns false'. Refute it at one input. -/
def fnExactCountSafeWrong : ChangeSpec := { name := "fnExactCountSafe", fn := fun _ => fun
  | [d1, d2] => { results := [.lit (.bool false)], args := [d1, d2] }
  | _ => none }
def FnExactCountSafeWrongFalsely : Prop := fnExactCountSafeRow.holds Try.pinned (OpenSpec.ofChange fnExactCountSafeWrong)

/-- 'laws.FnViewDrop': WHATEVER THE INPUT: true; the input reads as it did. -/
def fnViewDropSpec : ChangeSpec := { name := "fnViewDrop", fn := fun _ => fun
  | [d] => { results := [.lit (.bool true)], args := [d] }
  | _ => none }
def fnViewDropRow : OpenClaim := { program := "ytgpnbcdboofikaa", sum := "d836e90605c102cacea179999eed44e4b340633224ad633c89c5140a8241d679", func := "loop.example/chainfiles/laws.FnViewDrop", spec := "fnViewDrop", apart := false }
def FnViewDropSaid : Prop := fnViewDropRow.holds Try.pinned (OpenSpec.ofChange fnViewDropSpec)

/-- ITS FALSE NEIGHBOUR: 'it returns false'. Refute it at one input. -/
def fnViewDropWrong : ChangeSpec := { name := "fnViewDrop", fn := fun _ => fun
  | [d] => { results := [.lit (.bool false)], args := [d] }
  | _ => none }
def FnViewDropWrongFalsely : Prop := fnViewDropRow.holds Try.pinned (OpenSpec.ofChange fnViewDropWrong)

/-- 'laws.FnViewAdd': WHATEVER THE INPUT: true; the input reads as it did. -/
def fnViewAddSpec : ChangeSpec := { name := "fnViewAdd", fn := fun _ => fun
  | [d] => { results := [.lit (.bool true)], args := [d] }
  | _ => none }
def fnViewAddRow : OpenClaim := { program := "ytgpnbcdboofikaa", sum := "d836e90605c102cacea179999eed44e4b340633224ad633c89c5140a8241d679", func := "loop.example/chainfiles/laws.FnViewAdd", spec := "fnViewAdd", apart := false }
def FnViewAddSaid : Prop := fnViewAddRow.holds Try.pinned (OpenSpec.ofChange fnViewAddSpec)

/-- ITS FALSE NEIGHBOUR: 'it returns false'. Refute it at one input. -/
def fnViewAddWrong : ChangeSpec := { name := "fnViewAdd", fn := fun _ => fun
  | [d] => { results := [.lit (.bool false)], args := [d] }
  | _ => none }
def FnViewAddWrongFalsely : Prop := fnViewAddRow.holds Try.pinned (OpenSpec.ofChange fnViewAddWrong)

/-- 'laws.FnExactCountCopies': WHATEVER THE INPUT: true; the input reads as it did. -/
def fnExactCountCopiesSpec : ChangeSpec := { name := "fnExactCountCopies", fn := fun _ => fun
  | [d] => { results := [.lit (.bool true)], args := [d] }
  | _ => none }
def fnExactCountCopiesRow : OpenClaim := { program := "ytgpnbcdboofikaa", sum := "d836e90605c102cacea179999eed44e4b340633224ad633c89c5140a8241d679", func := "loop.example/chainfiles/laws.FnExactCountCopies", spec := "fnExactCountCopies", apart := false }
def FnExactCountCopiesSaid : Prop := fnExactCountCopiesRow.holds Try.pinned (OpenSpec.ofChange fnExactCountCopiesSpec)

/-- ITS FALSE NEIGHBOUR: 'it returns false'. Refute it at one input. -/
def fnExactCountCopiesWrong : ChangeSpec := { name := "fnExactCountCopies", fn := fun _ => fun
  | [d] => { results := [.lit (.bool false)], args := [d] }
  | _ => none }
def FnExactCountCopiesWrongFalsely : Prop := fnExactCountCopiesRow.holds Try.pinned (OpenSpec.ofChange fnExactCountCopiesWrong)

/- THE SECOND FORM. 'bulk': how many values and letters a reading holds, each counted each time it is reached (what is shared counts as often as it is met; a slice's spare places count too). A statement '..UptoSaid' is the law's where the arguments, and the package variables that the reading takes, are together of bulk at most 1048576: NARROWER than '..Said'. Prove '..Said' where nothing that the law and all that it calls make is longer than what came in: it says more and counts as full. Else prove '..UptoSaid'. A law counts once. -/
mutual
def uptoBulk {H : Type} : DataW H → Nat
  | .lit (.string bytes) => bytes.length + 1
  | .lit _ => 1
  | .nil => 1
  | .ptr d => uptoBulk d + 1
  | .slice elems spare => uptoBulkAll elems + uptoBulkAll spare + 1
  | .agg parts => uptoBulkAll parts + 1
  | .iface _ d => uptoBulk d + 1
  | .map entries => uptoBulkEntries entries + 1
  | .held _ => 1
def uptoBulkAll {H : Type} : List (DataW H) → Nat
  | [] => 0
  | d :: r => uptoBulk d + uptoBulkAll r
def uptoBulkEntries {H : Type} : List (Lit × DataW H) → Nat
  | [] => 0
  | x :: r => uptoBulkEntry x + uptoBulkEntries r
def uptoBulkEntry {H : Type} : Lit × DataW H → Nat
  | (.string bytes, d) => bytes.length + uptoBulk d + 1
  | (_, d) => uptoBulk d + 1
 end
def uptoSmall : (H : Type) → List (DataW H) → Bool := fun _ ds => decide (uptoBulkAll ds ≤ 1048576)
def OpenSpec.upto (s : _root_.Go.ChangeSpec) : _root_.Go.OpenSpec := { _root_.Go.OpenSpec.ofChange s with cond := some uptoSmall }

/-- 'laws.FnCopies', WHERE WHAT IT READS IS OF BULK AT MOST 1048576: true; the input reads as it did. -/
def fnCopiesUptoRow : OpenClaim := { program := "ytgpnbcdboofikaa", sum := "d836e90605c102cacea179999eed44e4b340633224ad633c89c5140a8241d679", func := "loop.example/chainfiles/laws.FnCopies", spec := "fnCopies", apart := false, narrowed := true }
def FnCopiesUptoSaid : Prop := fnCopiesUptoRow.holds Try.pinned (OpenSpec.upto fnCopiesSpec)

/-- 'laws.FnCopiesLag', WHERE WHAT IT READS IS OF BULK AT MOST 1048576: true; the input reads as it did. -/
def fnCopiesLagUptoRow : OpenClaim := { program := "ytgpnbcdboofikaa", sum := "d836e90605c102cacea179999eed44e4b340633224ad633c89c5140a8241d679", func := "loop.example/chainfiles/laws.FnCopiesLag", spec := "fnCopiesLag", apart := false, narrowed := true }
def FnCopiesLagUptoSaid : Prop := fnCopiesLagUptoRow.holds Try.pinned (OpenSpec.upto fnCopiesLagSpec)

/-- 'laws.FnCopiesDone', WHERE WHAT IT READS IS OF BULK AT MOST 1048576: true; the input reads as it did. -/
def fnCopiesDoneUptoRow : OpenClaim := { program := "ytgpnbcdboofikaa", sum := "d836e90605c102cacea179999eed44e4b340633224ad633c89c5140a8241d679", func := "loop.example/chainfiles/laws.FnCopiesDone", spec := "fnCopiesDone", apart := false, narrowed := true }
def FnCopiesDoneUptoSaid : Prop := fnCopiesDoneUptoRow.holds Try.pinned (OpenSpec.upto fnCopiesDoneSpec)

/-- 'laws.FnViewOf', WHERE WHAT IT READS IS OF BULK AT MOST 1048576: true; the input reads as it did. -/
def fnViewOfUptoRow : OpenClaim := { program := "ytgpnbcdboofikaa", sum := "d836e90605c102cacea179999eed44e4b340633224ad633c89c5140a8241d679", func := "loop.example/chainfiles/laws.FnViewOf", spec := "fnViewOf", apart := false, narrowed := true }
def FnViewOfUptoSaid : Prop := fnViewOfUptoRow.holds Try.pinned (OpenSpec.upto fnViewOfSpec)

/-- 'laws.FnSafe', WHERE WHAT IT READS IS OF BULK AT MOST 1048576: true; the input reads as it did. -/
def fnSafeUptoRow : OpenClaim := { program := "ytgpnbcdboofikaa", sum := "d836e90605c102cacea179999eed44e4b340633224ad633c89c5140a8241d679", func := "loop.example/chainfiles/laws.FnSafe", spec := "fnSafe", apart := false, narrowed := true }
def FnSafeUptoSaid : Prop := fnSafeUptoRow.holds Try.pinned (OpenSpec.upto fnSafeSpec)

/-- 'laws.FnSafeTail', WHERE WHAT IT READS IS OF BULK AT MOST 1048576: true; the input reads as it did. -/
def fnSafeTailUptoRow : OpenClaim := { program := "ytgpnbcdboofikaa", sum := "d836e90605c102cacea179999eed44e4b340633224ad633c89c5140a8241d679", func := "loop.example/chainfiles/laws.FnSafeTail", spec := "fnSafeTail", apart := false, narrowed := true }
def FnSafeTailUptoSaid : Prop := fnSafeTailUptoRow.holds Try.pinned (OpenSpec.upto fnSafeTailSpec)

/-- 'laws.FnSafeDrop', WHERE WHAT IT READS IS OF BULK AT MOST 1048576: true; the input reads as it did. -/
def fnSafeDropUptoRow : OpenClaim := { program := "ytgpnbcdboofikaa", sum := "d836e90605c102cacea179999eed44e4b340633224ad633c89c5140a8241d679", func := "loop.example/chainfiles/laws.FnSafeDrop", spec := "fnSafeDrop", apart := false, narrowed := true }
def FnSafeDropUptoSaid : Prop := fnSafeDropUptoRow.holds Try.pinned (OpenSpec.upto fnSafeDropSpec)

/-- 'laws.FnExactCountSafe', WHERE WHAT IT READS IS OF BULK AT MOST 1048576: true; the input reads as it did. -/
def fnExactCountSafeUptoRow : OpenClaim := { program := "ytgpnbcdboofikaa", sum := "d836e90605c102cacea179999eed44e4b340633224ad633c89c5140a8241d679", func := "loop.example/chainfiles/laws.FnExactCountSafe", spec := "fnExactCountSafe", apart := false, narrowed := true }
def FnExactCountSafeUptoSaid : Prop := fnExactCountSafeUptoRow.holds Try.pinned (OpenSpec.upto fnExactCountSafeSpec)

/-- 'laws.FnViewDrop', WHERE WHAT IT READS IS OF BULK AT MOST 1048576: true; the input reads as it did. -/
def fnViewDropUptoRow : OpenClaim := { program := "ytgpnbcdboofikaa", sum := "d836e90605c102cacea179999eed44e4b340633224ad633c89c5140a8241d679", func := "loop.example/chainfiles/laws.FnViewDrop", spec := "fnViewDrop", apart := false, narrowed := true }
def FnViewDropUptoSaid : Prop := fnViewDropUptoRow.holds Try.pinned (OpenSpec.upto fnViewDropSpec)

/-- 'laws.FnViewAdd', WHERE WHAT IT READS IS OF BULK AT MOST 1048576: true; the input reads as it did. -/
def fnViewAddUptoRow : OpenClaim := { program := "ytgpnbcdboofikaa", sum := "d836e90605c102cacea179999eed44e4b340633224ad633c89c5140a8241d679", func := "loop.example/chainfiles/laws.FnViewAdd", spec := "fnViewAdd", apart := false, narrowed := true }
def FnViewAddUptoSaid : Prop := fnViewAddUptoRow.holds Try.pinned (OpenSpec.upto fnViewAddSpec)

/-- 'laws.FnExactCountCopies', WHERE WHAT IT READS IS OF BULK AT MOST 1048576: true; the input reads as it did. -/
def fnExactCountCopiesUptoRow : OpenClaim := { program := "ytgpnbcdboofikaa", sum := "d836e90605c102cacea179999eed44e4b340633224ad633c89c5140a8241d679", func := "loop.example/chainfiles/laws.FnExactCountCopies", spec := "fnExactCountCopies", apart := false, narrowed := true }
def FnExactCountCopiesUptoSaid : Prop := fnExactCountCopiesUptoRow.holds Try.pinned (OpenSpec.upto fnExactCountCopiesSpec)

end Rows
end Go.Proofs.Ytgpnbcdboofikaa
