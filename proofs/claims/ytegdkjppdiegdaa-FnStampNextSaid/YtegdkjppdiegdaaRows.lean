/-
  No cell of these rows narrows 'for every input' (looked for: loops, veiled, ifaces, maps, wideKeys, modest, calm, conditions, laid).
  DERIVED. THE GIVEN ROWS OF THIS SEAT. 12 by the template 'for every input the law returns true; each argument reads behind the call as it read before'; 0 by the template 'total and deterministic' (their statements: YtegdkjppdiegdaaTotals.lean).
  GIVEN WITH THE SEED: the statements are not yours to turn. If you find one false, say at which input.
  Laid BY PROGRAM, IN A SANDBOX (cutbox-rows.mjs): the forced cells as the released guide's own fill.sh prints them over the translation 9cd6f6a972188bfa… (all of the seat's roots in one cut). By AI agents, Wed Nov 11 2026. No macro, syntax, notation, axiom, sorry.
-/
import Derived.Test.YtegdkjppdiegdaaChecked
import GoSem.Claim
import GoSem.ClaimJoined
import GoSem.ClaimMapViews
import Derived.JoinedTies
import Derived.KernelRfl
namespace Go.Proofs.Ytegdkjppdiegdaa
/- THE CELL 'sum', in the pinned program and in every row, IS THE sha256 OF THE DUMP (.gsa) THAT YtegdkjppdiegdaaProg.lean LOADS. Nothing in Lean hashes anything: it is a label: what it is worth is what the hold of that sum in a sandbox is worth. -/
noncomputable def Try.pinned : Pinned := { name := "ytegdkjppdiegdaa", sum := "9cd6f6a972188bfa0a8a9792ae637a9c2f86a69ef764593fcf4ef29eca312079", checked := Try.checked }
namespace Rows
def none {H : Type} : Left H := { results := [], args := [] }

/-- 'laws.FnExactConstants': WHATEVER THE INPUT: true; the input reads as it did. -/
def fnExactConstantsSpec : ChangeSpec := { name := "fnExactConstants", fn := fun _ => fun
  | [] => { results := [.lit (.bool true)], args := [] }
  | _ => none }
def fnExactConstantsRow : OpenClaim := { program := "ytegdkjppdiegdaa", sum := "9cd6f6a972188bfa0a8a9792ae637a9c2f86a69ef764593fcf4ef29eca312079", func := "loop.example/tombolo/laws.FnExactConstants", spec := "fnExactConstants", apart := false }
def FnExactConstantsSaid : Prop := fnExactConstantsRow.holds Try.pinned (OpenSpec.ofChange fnExactConstantsSpec)

/-- ITS FALSE NEIGHBOUR: 'it returns false'. Refute it at one input. -/
def fnExactConstantsWrong : ChangeSpec := { name := "fnExactConstants", fn := fun _ => fun
  | [] => { results := [.lit (.bool false)], args := [] }
  | _ => none }
def FnExactConstantsWrongFalsely : Prop := fnExactConstantsRow.holds Try.pinned (OpenSpec.ofChange fnExactConstantsWrong)

/-- 'laws.FnExactStampLess': WHATEVER THE INPUT: true; the input reads as it did. -/
def fnExactStampLessSpec : ChangeSpec := { name := "fnExactStampLess", fn := fun _ => fun
  | [d1, d2] => { results := [.lit (.bool true)], args := [d1, d2] }
  | _ => none }
def fnExactStampLessRow : OpenClaim := { program := "ytegdkjppdiegdaa", sum := "9cd6f6a972188bfa0a8a9792ae637a9c2f86a69ef764593fcf4ef29eca312079", func := "loop.example/tombolo/laws.FnExactStampLess", spec := "fnExactStampLess", apart := false }
def FnExactStampLessSaid : Prop := fnExactStampLessRow.holds Try.pinned (OpenSpec.ofChange fnExactStampLessSpec)

/-- ITS FALSE NEIGHBOUR: 'it returns false'. Refute it at one input. -/
def fnExactStampLessWrong : ChangeSpec := { name := "fnExactStampLess", fn := fun _ => fun
  | [d1, d2] => { results := [.lit (.bool false)], args := [d1, d2] }
  | _ => none }
def FnExactStampLessWrongFalsely : Prop := fnExactStampLessRow.holds Try.pinned (OpenSpec.ofChange fnExactStampLessWrong)

/-- 'laws.FnExactStampOk': WHATEVER THE INPUT: true; the input reads as it did. -/
def fnExactStampOkSpec : ChangeSpec := { name := "fnExactStampOk", fn := fun _ => fun
  | [d] => { results := [.lit (.bool true)], args := [d] }
  | _ => none }
def fnExactStampOkRow : OpenClaim := { program := "ytegdkjppdiegdaa", sum := "9cd6f6a972188bfa0a8a9792ae637a9c2f86a69ef764593fcf4ef29eca312079", func := "loop.example/tombolo/laws.FnExactStampOk", spec := "fnExactStampOk", apart := false }
def FnExactStampOkSaid : Prop := fnExactStampOkRow.holds Try.pinned (OpenSpec.ofChange fnExactStampOkSpec)

/-- ITS FALSE NEIGHBOUR: 'it returns false'. Refute it at one input. -/
def fnExactStampOkWrong : ChangeSpec := { name := "fnExactStampOk", fn := fun _ => fun
  | [d] => { results := [.lit (.bool false)], args := [d] }
  | _ => none }
def FnExactStampOkWrongFalsely : Prop := fnExactStampOkRow.holds Try.pinned (OpenSpec.ofChange fnExactStampOkWrong)

/-- 'laws.FnExactSiteSide': WHATEVER THE INPUT: true; the input reads as it did. -/
def fnExactSiteSideSpec : ChangeSpec := { name := "fnExactSiteSide", fn := fun _ => fun
  | [d] => { results := [.lit (.bool true)], args := [d] }
  | _ => none }
def fnExactSiteSideRow : OpenClaim := { program := "ytegdkjppdiegdaa", sum := "9cd6f6a972188bfa0a8a9792ae637a9c2f86a69ef764593fcf4ef29eca312079", func := "loop.example/tombolo/laws.FnExactSiteSide", spec := "fnExactSiteSide", apart := false }
def FnExactSiteSideSaid : Prop := fnExactSiteSideRow.holds Try.pinned (OpenSpec.ofChange fnExactSiteSideSpec)

/-- ITS FALSE NEIGHBOUR: 'it returns false'. Refute it at one input. -/
def fnExactSiteSideWrong : ChangeSpec := { name := "fnExactSiteSide", fn := fun _ => fun
  | [d] => { results := [.lit (.bool false)], args := [d] }
  | _ => none }
def FnExactSiteSideWrongFalsely : Prop := fnExactSiteSideRow.holds Try.pinned (OpenSpec.ofChange fnExactSiteSideWrong)

/-- 'laws.FnExactVerSlot': WHATEVER THE INPUT: true; the input reads as it did. -/
def fnExactVerSlotSpec : ChangeSpec := { name := "fnExactVerSlot", fn := fun _ => fun
  | [d] => { results := [.lit (.bool true)], args := [d] }
  | _ => none }
def fnExactVerSlotRow : OpenClaim := { program := "ytegdkjppdiegdaa", sum := "9cd6f6a972188bfa0a8a9792ae637a9c2f86a69ef764593fcf4ef29eca312079", func := "loop.example/tombolo/laws.FnExactVerSlot", spec := "fnExactVerSlot", apart := false }
def FnExactVerSlotSaid : Prop := fnExactVerSlotRow.holds Try.pinned (OpenSpec.ofChange fnExactVerSlotSpec)

/-- ITS FALSE NEIGHBOUR: 'it returns false'. Refute it at one input. -/
def fnExactVerSlotWrong : ChangeSpec := { name := "fnExactVerSlot", fn := fun _ => fun
  | [d] => { results := [.lit (.bool false)], args := [d] }
  | _ => none }
def FnExactVerSlotWrongFalsely : Prop := fnExactVerSlotRow.holds Try.pinned (OpenSpec.ofChange fnExactVerSlotWrong)

/-- 'laws.FnStampChain': WHATEVER THE INPUT: true; the input reads as it did. -/
def fnStampChainSpec : ChangeSpec := { name := "fnStampChain", fn := fun _ => fun
  | [d1, d2] => { results := [.lit (.bool true)], args := [d1, d2] }
  | _ => none }
def fnStampChainRow : OpenClaim := { program := "ytegdkjppdiegdaa", sum := "9cd6f6a972188bfa0a8a9792ae637a9c2f86a69ef764593fcf4ef29eca312079", func := "loop.example/tombolo/laws.FnStampChain", spec := "fnStampChain", apart := false }
def FnStampChainSaid : Prop := fnStampChainRow.holds Try.pinned (OpenSpec.ofChange fnStampChainSpec)

/-- ITS FALSE NEIGHBOUR: 'it returns false'. Refute it at one input. -/
def fnStampChainWrong : ChangeSpec := { name := "fnStampChain", fn := fun _ => fun
  | [d1, d2] => { results := [.lit (.bool false)], args := [d1, d2] }
  | _ => none }
def FnStampChainWrongFalsely : Prop := fnStampChainRow.holds Try.pinned (OpenSpec.ofChange fnStampChainWrong)

/-- 'laws.FnSiteSide': WHATEVER THE INPUT: true; the input reads as it did. -/
def fnSiteSideSpec : ChangeSpec := { name := "fnSiteSide", fn := fun _ => fun
  | [d] => { results := [.lit (.bool true)], args := [d] }
  | _ => none }
def fnSiteSideRow : OpenClaim := { program := "ytegdkjppdiegdaa", sum := "9cd6f6a972188bfa0a8a9792ae637a9c2f86a69ef764593fcf4ef29eca312079", func := "loop.example/tombolo/laws.FnSiteSide", spec := "fnSiteSide", apart := false }
def FnSiteSideSaid : Prop := fnSiteSideRow.holds Try.pinned (OpenSpec.ofChange fnSiteSideSpec)

/-- ITS FALSE NEIGHBOUR: 'it returns false'. Refute it at one input. -/
def fnSiteSideWrong : ChangeSpec := { name := "fnSiteSide", fn := fun _ => fun
  | [d] => { results := [.lit (.bool false)], args := [d] }
  | _ => none }
def FnSiteSideWrongFalsely : Prop := fnSiteSideRow.holds Try.pinned (OpenSpec.ofChange fnSiteSideWrong)

/-- 'laws.FnVerSlot': WHATEVER THE INPUT: true; the input reads as it did. -/
def fnVerSlotSpec : ChangeSpec := { name := "fnVerSlot", fn := fun _ => fun
  | [d] => { results := [.lit (.bool true)], args := [d] }
  | _ => none }
def fnVerSlotRow : OpenClaim := { program := "ytegdkjppdiegdaa", sum := "9cd6f6a972188bfa0a8a9792ae637a9c2f86a69ef764593fcf4ef29eca312079", func := "loop.example/tombolo/laws.FnVerSlot", spec := "fnVerSlot", apart := false }
def FnVerSlotSaid : Prop := fnVerSlotRow.holds Try.pinned (OpenSpec.ofChange fnVerSlotSpec)

/-- ITS FALSE NEIGHBOUR: 'it returns false'. Refute it at one input. -/
def fnVerSlotWrong : ChangeSpec := { name := "fnVerSlot", fn := fun _ => fun
  | [d] => { results := [.lit (.bool false)], args := [d] }
  | _ => none }
def FnVerSlotWrongFalsely : Prop := fnVerSlotRow.holds Try.pinned (OpenSpec.ofChange fnVerSlotWrong)

/-- 'laws.FnStampOrder': WHATEVER THE INPUT: true; the input reads as it did. -/
def fnStampOrderSpec : ChangeSpec := { name := "fnStampOrder", fn := fun _ => fun
  | [d] => { results := [.lit (.bool true)], args := [d] }
  | _ => none }
def fnStampOrderRow : OpenClaim := { program := "ytegdkjppdiegdaa", sum := "9cd6f6a972188bfa0a8a9792ae637a9c2f86a69ef764593fcf4ef29eca312079", func := "loop.example/tombolo/laws.FnStampOrder", spec := "fnStampOrder", apart := false }
def FnStampOrderSaid : Prop := fnStampOrderRow.holds Try.pinned (OpenSpec.ofChange fnStampOrderSpec)

/-- ITS FALSE NEIGHBOUR: 'it returns false'. Refute it at one input. -/
def fnStampOrderWrong : ChangeSpec := { name := "fnStampOrder", fn := fun _ => fun
  | [d] => { results := [.lit (.bool false)], args := [d] }
  | _ => none }
def FnStampOrderWrongFalsely : Prop := fnStampOrderRow.holds Try.pinned (OpenSpec.ofChange fnStampOrderWrong)

/-- 'laws.FnStampLater': WHATEVER THE INPUT: true; the input reads as it did. -/
def fnStampLaterSpec : ChangeSpec := { name := "fnStampLater", fn := fun _ => fun
  | [d] => { results := [.lit (.bool true)], args := [d] }
  | _ => none }
def fnStampLaterRow : OpenClaim := { program := "ytegdkjppdiegdaa", sum := "9cd6f6a972188bfa0a8a9792ae637a9c2f86a69ef764593fcf4ef29eca312079", func := "loop.example/tombolo/laws.FnStampLater", spec := "fnStampLater", apart := false }
def FnStampLaterSaid : Prop := fnStampLaterRow.holds Try.pinned (OpenSpec.ofChange fnStampLaterSpec)

/-- ITS FALSE NEIGHBOUR: 'it returns false'. Refute it at one input. -/
def fnStampLaterWrong : ChangeSpec := { name := "fnStampLater", fn := fun _ => fun
  | [d] => { results := [.lit (.bool false)], args := [d] }
  | _ => none }
def FnStampLaterWrongFalsely : Prop := fnStampLaterRow.holds Try.pinned (OpenSpec.ofChange fnStampLaterWrong)

/-- 'laws.FnExactStampNext': WHATEVER THE INPUT: true; the input reads as it did. -/
def fnExactStampNextSpec : ChangeSpec := { name := "fnExactStampNext", fn := fun _ => fun
  | [d1, d2] => { results := [.lit (.bool true)], args := [d1, d2] }
  | _ => none }
def fnExactStampNextRow : OpenClaim := { program := "ytegdkjppdiegdaa", sum := "9cd6f6a972188bfa0a8a9792ae637a9c2f86a69ef764593fcf4ef29eca312079", func := "loop.example/tombolo/laws.FnExactStampNext", spec := "fnExactStampNext", apart := false }
def FnExactStampNextSaid : Prop := fnExactStampNextRow.holds Try.pinned (OpenSpec.ofChange fnExactStampNextSpec)

/-- ITS FALSE NEIGHBOUR: 'it returns false'. Refute it at one input. -/
def fnExactStampNextWrong : ChangeSpec := { name := "fnExactStampNext", fn := fun _ => fun
  | [d1, d2] => { results := [.lit (.bool false)], args := [d1, d2] }
  | _ => none }
def FnExactStampNextWrongFalsely : Prop := fnExactStampNextRow.holds Try.pinned (OpenSpec.ofChange fnExactStampNextWrong)

/-- 'laws.FnStampNext': WHATEVER THE INPUT: true; the input reads as it did. -/
def fnStampNextSpec : ChangeSpec := { name := "fnStampNext", fn := fun _ => fun
  | [d1, d2] => { results := [.lit (.bool true)], args := [d1, d2] }
  | _ => none }
def fnStampNextRow : OpenClaim := { program := "ytegdkjppdiegdaa", sum := "9cd6f6a972188bfa0a8a9792ae637a9c2f86a69ef764593fcf4ef29eca312079", func := "loop.example/tombolo/laws.FnStampNext", spec := "fnStampNext", apart := false }
def FnStampNextSaid : Prop := fnStampNextRow.holds Try.pinned (OpenSpec.ofChange fnStampNextSpec)

/-- ITS FALSE NEIGHBOUR: 'it returns false'. Refute it at one input. -/
def fnStampNextWrong : ChangeSpec := { name := "fnStampNext", fn := fun _ => fun
  | [d1, d2] => { results := [.lit (.bool false)], args := [d1, d2] }
  | _ => none }
def FnStampNextWrongFalsely : Prop := fnStampNextRow.holds Try.pinned (OpenSpec.ofChange fnStampNextWrong)

/- THE SECOND FORM. 'bulk': how many values and letters a reading holds, each counted each time it is reached (what is shared counts as often as it is met; a slice's spare places count too). A statement '..UptoSaid' is the law's where the arguments, and the package variables that the reading takes, are together of bulk at most 1048576: NARROWER than '..Said'. Prove '..Said' where nothing that the law and all that it calls make is longer than what came in: it says more and counts as full. Else prove '..UptoSaid'. A law counts once. -/
mutual
def uptoBulk {H : Type} : DataW H → Nat
  | .lit (.string bytes) => bytes.length + 1
  | .lit _ => 1
  | .nil => 1
  | .ptr d => uptoBulk d + 1
  | .slice elems spare => uptoBulkAll elems + uptoBulkAll spare + 1
  | .agg parts => uptoBulkAll parts + 1
  | .iface _ d => uptoBulk d + 1
  | .map entries => uptoBulkEntries entries + 1
  | .held _ => 1
def uptoBulkAll {H : Type} : List (DataW H) → Nat
  | [] => 0
  | d :: r => uptoBulk d + uptoBulkAll r
def uptoBulkEntries {H : Type} : List (Lit × DataW H) → Nat
  | [] => 0
  | x :: r => uptoBulkEntry x + uptoBulkEntries r
def uptoBulkEntry {H : Type} : Lit × DataW H → Nat
  | (.string bytes, d) => bytes.length + uptoBulk d + 1
  | (_, d) => uptoBulk d + 1
 end
def uptoSmall : (H : Type) → List (DataW H) → Bool := fun _ ds => decide (uptoBulkAll ds ≤ 1048576)
def OpenSpec.upto (s : _root_.Go.ChangeSpec) : _root_.Go.OpenSpec := { _root_.Go.OpenSpec.ofChange s with cond := some uptoSmall }

/-- 'laws.FnExactConstants', WHERE WHAT IT READS IS OF BULK AT MOST 1048576: true; the input reads as it did. -/
def fnExactConstantsUptoRow : OpenClaim := { program := "ytegdkjppdiegdaa", sum := "9cd6f6a972188bfa0a8a9792ae637a9c2f86a69ef764593fcf4ef29eca312079", func := "loop.example/tombolo/laws.FnExactConstants", spec := "fnExactConstants", apart := false, narrowed := true }
def FnExactConstantsUptoSaid : Prop := fnExactConstantsUptoRow.holds Try.pinned (OpenSpec.upto fnExactConstantsSpec)

/-- 'laws.FnExactStampLess', WHERE WHAT IT READS IS OF BULK AT MOST 1048576: true; the input reads as it did. -/
def fnExactStampLessUptoRow : OpenClaim := { program := "ytegdkjppdiegdaa", sum := "9cd6f6a972188bfa0a8a9792ae637a9c2f86a69ef764593fcf4ef29eca312079", func := "loop.example/tombolo/laws.FnExactStampLess", spec := "fnExactStampLess", apart := false, narrowed := true }
def FnExactStampLessUptoSaid : Prop := fnExactStampLessUptoRow.holds Try.pinned (OpenSpec.upto fnExactStampLessSpec)

/-- 'laws.FnExactStampOk', WHERE WHAT IT READS IS OF BULK AT MOST 1048576: true; the input reads as it did. -/
def fnExactStampOkUptoRow : OpenClaim := { program := "ytegdkjppdiegdaa", sum := "9cd6f6a972188bfa0a8a9792ae637a9c2f86a69ef764593fcf4ef29eca312079", func := "loop.example/tombolo/laws.FnExactStampOk", spec := "fnExactStampOk", apart := false, narrowed := true }
def FnExactStampOkUptoSaid : Prop := fnExactStampOkUptoRow.holds Try.pinned (OpenSpec.upto fnExactStampOkSpec)

/-- 'laws.FnExactSiteSide', WHERE WHAT IT READS IS OF BULK AT MOST 1048576: true; the input reads as it did. -/
def fnExactSiteSideUptoRow : OpenClaim := { program := "ytegdkjppdiegdaa", sum := "9cd6f6a972188bfa0a8a9792ae637a9c2f86a69ef764593fcf4ef29eca312079", func := "loop.example/tombolo/laws.FnExactSiteSide", spec := "fnExactSiteSide", apart := false, narrowed := true }
def FnExactSiteSideUptoSaid : Prop := fnExactSiteSideUptoRow.holds Try.pinned (OpenSpec.upto fnExactSiteSideSpec)

/-- 'laws.FnExactVerSlot', WHERE WHAT IT READS IS OF BULK AT MOST 1048576: true; the input reads as it did. -/
def fnExactVerSlotUptoRow : OpenClaim := { program := "ytegdkjppdiegdaa", sum := "9cd6f6a972188bfa0a8a9792ae637a9c2f86a69ef764593fcf4ef29eca312079", func := "loop.example/tombolo/laws.FnExactVerSlot", spec := "fnExactVerSlot", apart := false, narrowed := true }
def FnExactVerSlotUptoSaid : Prop := fnExactVerSlotUptoRow.holds Try.pinned (OpenSpec.upto fnExactVerSlotSpec)

/-- 'laws.FnStampChain', WHERE WHAT IT READS IS OF BULK AT MOST 1048576: true; the input reads as it did. -/
def fnStampChainUptoRow : OpenClaim := { program := "ytegdkjppdiegdaa", sum := "9cd6f6a972188bfa0a8a9792ae637a9c2f86a69ef764593fcf4ef29eca312079", func := "loop.example/tombolo/laws.FnStampChain", spec := "fnStampChain", apart := false, narrowed := true }
def FnStampChainUptoSaid : Prop := fnStampChainUptoRow.holds Try.pinned (OpenSpec.upto fnStampChainSpec)

/-- 'laws.FnSiteSide', WHERE WHAT IT READS IS OF BULK AT MOST 1048576: true; the input reads as it did. -/
def fnSiteSideUptoRow : OpenClaim := { program := "ytegdkjppdiegdaa", sum := "9cd6f6a972188bfa0a8a9792ae637a9c2f86a69ef764593fcf4ef29eca312079", func := "loop.example/tombolo/laws.FnSiteSide", spec := "fnSiteSide", apart := false, narrowed := true }
def FnSiteSideUptoSaid : Prop := fnSiteSideUptoRow.holds Try.pinned (OpenSpec.upto fnSiteSideSpec)

/-- 'laws.FnVerSlot', WHERE WHAT IT READS IS OF BULK AT MOST 1048576: true; the input reads as it did. -/
def fnVerSlotUptoRow : OpenClaim := { program := "ytegdkjppdiegdaa", sum := "9cd6f6a972188bfa0a8a9792ae637a9c2f86a69ef764593fcf4ef29eca312079", func := "loop.example/tombolo/laws.FnVerSlot", spec := "fnVerSlot", apart := false, narrowed := true }
def FnVerSlotUptoSaid : Prop := fnVerSlotUptoRow.holds Try.pinned (OpenSpec.upto fnVerSlotSpec)

/-- 'laws.FnStampOrder', WHERE WHAT IT READS IS OF BULK AT MOST 1048576: true; the input reads as it did. -/
def fnStampOrderUptoRow : OpenClaim := { program := "ytegdkjppdiegdaa", sum := "9cd6f6a972188bfa0a8a9792ae637a9c2f86a69ef764593fcf4ef29eca312079", func := "loop.example/tombolo/laws.FnStampOrder", spec := "fnStampOrder", apart := false, narrowed := true }
def FnStampOrderUptoSaid : Prop := fnStampOrderUptoRow.holds Try.pinned (OpenSpec.upto fnStampOrderSpec)

/-- 'laws.FnStampLater', WHERE WHAT IT READS IS OF BULK AT MOST 1048576: true; the input reads as it did. -/
def fnStampLaterUptoRow : OpenClaim := { program := "ytegdkjppdiegdaa", sum := "9cd6f6a972188bfa0a8a9792ae637a9c2f86a69ef764593fcf4ef29eca312079", func := "loop.example/tombolo/laws.FnStampLater", spec := "fnStampLater", apart := false, narrowed := true }
def FnStampLaterUptoSaid : Prop := fnStampLaterUptoRow.holds Try.pinned (OpenSpec.upto fnStampLaterSpec)

/-- 'laws.FnExactStampNext', WHERE WHAT IT READS IS OF BULK AT MOST 1048576: true; the input reads as it did. -/
def fnExactStampNextUptoRow : OpenClaim := { program := "ytegdkjppdiegdaa", sum := "9cd6f6a972188bfa0a8a9792ae637a9c2f86a69ef764593fcf4ef29eca312079", func := "loop.example/tombolo/laws.FnExactStampNext", spec := "fnExactStampNext", apart := false, narrowed := true }
def FnExactStampNextUptoSaid : Prop := fnExactStampNextUptoRow.holds Try.pinned (OpenSpec.upto fnExactStampNextSpec)

/-- 'laws.FnStampNext', WHERE WHAT IT READS IS OF BULK AT MOST 1048576: true; the input reads as it did. -/
def fnStampNextUptoRow : OpenClaim := { program := "ytegdkjppdiegdaa", sum := "9cd6f6a972188bfa0a8a9792ae637a9c2f86a69ef764593fcf4ef29eca312079", func := "loop.example/tombolo/laws.FnStampNext", spec := "fnStampNext", apart := false, narrowed := true }
def FnStampNextUptoSaid : Prop := fnStampNextUptoRow.holds Try.pinned (OpenSpec.upto fnStampNextSpec)

end Rows
end Go.Proofs.Ytegdkjppdiegdaa
