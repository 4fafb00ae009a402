/-
  No cell of these rows narrows 'for every input' (looked for: loops, veiled, ifaces, maps, wideKeys, modest, calm, conditions, laid).
  DERIVED. THE GIVEN ROWS OF THIS SEAT. 12 by the template 'for every input the law returns true; each argument reads behind the call as it read before'; 0 by the template 'total and deterministic' (their statements: YtfibddeafddjoaaTotals.lean).
  GIVEN WITH THE SEED: the statements are not yours to turn. If you find one false, say at which input.
  Laid BY PROGRAM, IN A SANDBOX (cutbox-rows.mjs): the forced cells as the released guide's own fill.sh prints them over the translation 71343f0ba084e49a… (all of the seat's roots in one cut). By AI agents, Wed Nov 11 2026. No macro, syntax, notation, axiom, sorry.
-/
import Derived.Test.YtfibddeafddjoaaChecked
import GoSem.Claim
import GoSem.ClaimJoined
import GoSem.ClaimMapViews
import Derived.JoinedTies
import Derived.KernelRfl
namespace Go.Proofs.Ytfibddeafddjoaa
/- THE CELL 'sum', in the pinned program and in every row, IS THE sha256 OF THE DUMP (.gsa) THAT YtfibddeafddjoaaProg.lean LOADS. Nothing in Lean hashes anything: it is a label: what it is worth is what the hold of that sum in a sandbox is worth. -/
noncomputable def Try.pinned : Pinned := { name := "ytfibddeafddjoaa", sum := "71343f0ba084e49aa1de9103fcd68847992d7530819a7b8bf93d55f8cc8bb903", checked := Try.checked }
namespace Rows
def none {H : Type} : Left H := { results := [], args := [] }

/-- 'laws.FnExactDepsOk': WHATEVER THE INPUT: true; the input reads as it did. -/
def fnExactDepsOkSpec : ChangeSpec := { name := "fnExactDepsOk", fn := fun _ => fun
  | [d] => { results := [.lit (.bool true)], args := [d] }
  | _ => none }
def fnExactDepsOkRow : OpenClaim := { program := "ytfibddeafddjoaa", sum := "71343f0ba084e49aa1de9103fcd68847992d7530819a7b8bf93d55f8cc8bb903", func := "loop.example/tombolo/laws.FnExactDepsOk", spec := "fnExactDepsOk", apart := false }
def FnExactDepsOkSaid : Prop := fnExactDepsOkRow.holds Try.pinned (OpenSpec.ofChange fnExactDepsOkSpec)

/-- ITS FALSE NEIGHBOUR: 'it returns false'. Refute it at one input. -/
def fnExactDepsOkWrong : ChangeSpec := { name := "fnExactDepsOk", fn := fun _ => fun
  | [d] => { results := [.lit (.bool false)], args := [d] }
  | _ => none }
def FnExactDepsOkWrongFalsely : Prop := fnExactDepsOkRow.holds Try.pinned (OpenSpec.ofChange fnExactDepsOkWrong)

/-- 'laws.FnExactDepsAt': WHATEVER THE INPUT: true; the input reads as it did. -/
def fnExactDepsAtSpec : ChangeSpec := { name := "fnExactDepsAt", fn := fun _ => fun
  | [d1, d2] => { results := [.lit (.bool true)], args := [d1, d2] }
  | _ => none }
def fnExactDepsAtRow : OpenClaim := { program := "ytfibddeafddjoaa", sum := "71343f0ba084e49aa1de9103fcd68847992d7530819a7b8bf93d55f8cc8bb903", func := "loop.example/tombolo/laws.FnExactDepsAt", spec := "fnExactDepsAt", apart := false }
def FnExactDepsAtSaid : Prop := fnExactDepsAtRow.holds Try.pinned (OpenSpec.ofChange fnExactDepsAtSpec)

/-- ITS FALSE NEIGHBOUR: 'it returns false'. Refute it at one input. -/
def fnExactDepsAtWrong : ChangeSpec := { name := "fnExactDepsAt", fn := fun _ => fun
  | [d1, d2] => { results := [.lit (.bool false)], args := [d1, d2] }
  | _ => none }
def FnExactDepsAtWrongFalsely : Prop := fnExactDepsAtRow.holds Try.pinned (OpenSpec.ofChange fnExactDepsAtWrong)

/-- 'laws.FnDepsAt': WHATEVER THE INPUT: true; the input reads as it did. -/
def fnDepsAtSpec : ChangeSpec := { name := "fnDepsAt", fn := fun _ => fun
  | [d] => { results := [.lit (.bool true)], args := [d] }
  | _ => none }
def fnDepsAtRow : OpenClaim := { program := "ytfibddeafddjoaa", sum := "71343f0ba084e49aa1de9103fcd68847992d7530819a7b8bf93d55f8cc8bb903", func := "loop.example/tombolo/laws.FnDepsAt", spec := "fnDepsAt", apart := false }
def FnDepsAtSaid : Prop := fnDepsAtRow.holds Try.pinned (OpenSpec.ofChange fnDepsAtSpec)

/-- ITS FALSE NEIGHBOUR: 'it returns false'. Refute it at one input. -/
def fnDepsAtWrong : ChangeSpec := { name := "fnDepsAt", fn := fun _ => fun
  | [d] => { results := [.lit (.bool false)], args := [d] }
  | _ => none }
def FnDepsAtWrongFalsely : Prop := fnDepsAtRow.holds Try.pinned (OpenSpec.ofChange fnDepsAtWrong)

/-- 'laws.FnVerOk': WHATEVER THE INPUT: true; the input reads as it did. -/
def fnVerOkSpec : ChangeSpec := { name := "fnVerOk", fn := fun _ => fun
  | [d] => { results := [.lit (.bool true)], args := [d] }
  | _ => none }
def fnVerOkRow : OpenClaim := { program := "ytfibddeafddjoaa", sum := "71343f0ba084e49aa1de9103fcd68847992d7530819a7b8bf93d55f8cc8bb903", func := "loop.example/tombolo/laws.FnVerOk", spec := "fnVerOk", apart := false }
def FnVerOkSaid : Prop := fnVerOkRow.holds Try.pinned (OpenSpec.ofChange fnVerOkSpec)

/-- ITS FALSE NEIGHBOUR: 'it returns false'. Refute it at one input. -/
def fnVerOkWrong : ChangeSpec := { name := "fnVerOk", fn := fun _ => fun
  | [d] => { results := [.lit (.bool false)], args := [d] }
  | _ => none }
def FnVerOkWrongFalsely : Prop := fnVerOkRow.holds Try.pinned (OpenSpec.ofChange fnVerOkWrong)

/-- 'laws.FnExactVerOk': WHATEVER THE INPUT: true; the input reads as it did. -/
def fnExactVerOkSpec : ChangeSpec := { name := "fnExactVerOk", fn := fun _ => fun
  | [d] => { results := [.lit (.bool true)], args := [d] }
  | _ => none }
def fnExactVerOkRow : OpenClaim := { program := "ytfibddeafddjoaa", sum := "71343f0ba084e49aa1de9103fcd68847992d7530819a7b8bf93d55f8cc8bb903", func := "loop.example/tombolo/laws.FnExactVerOk", spec := "fnExactVerOk", apart := false }
def FnExactVerOkSaid : Prop := fnExactVerOkRow.holds Try.pinned (OpenSpec.ofChange fnExactVerOkSpec)

/-- ITS FALSE NEIGHBOUR: 'it returns false'. Refute it at one input. -/
def fnExactVerOkWrong : ChangeSpec := { name := "fnExactVerOk", fn := fun _ => fun
  | [d] => { results := [.lit (.bool false)], args := [d] }
  | _ => none }
def FnExactVerOkWrongFalsely : Prop := fnExactVerOkRow.holds Try.pinned (OpenSpec.ofChange fnExactVerOkWrong)

/-- 'laws.FnDepsFew': WHATEVER THE INPUT: true; the input reads as it did. -/
def fnDepsFewSpec : ChangeSpec := { name := "fnDepsFew", fn := fun _ => fun
  | [d1, d2] => { results := [.lit (.bool true)], args := [d1, d2] }
  | _ => none }
def fnDepsFewRow : OpenClaim := { program := "ytfibddeafddjoaa", sum := "71343f0ba084e49aa1de9103fcd68847992d7530819a7b8bf93d55f8cc8bb903", func := "loop.example/tombolo/laws.FnDepsFew", spec := "fnDepsFew", apart := false }
def FnDepsFewSaid : Prop := fnDepsFewRow.holds Try.pinned (OpenSpec.ofChange fnDepsFewSpec)

/-- ITS FALSE NEIGHBOUR: 'it returns false'. Refute it at one input. -/
def fnDepsFewWrong : ChangeSpec := { name := "fnDepsFew", fn := fun _ => fun
  | [d1, d2] => { results := [.lit (.bool false)], args := [d1, d2] }
  | _ => none }
def FnDepsFewWrongFalsely : Prop := fnDepsFewRow.holds Try.pinned (OpenSpec.ofChange fnDepsFewWrong)

/-- 'laws.FnDepsTwice': WHATEVER THE INPUT: true; the input reads as it did. -/
def fnDepsTwiceSpec : ChangeSpec := { name := "fnDepsTwice", fn := fun _ => fun
  | [d1, d2] => { results := [.lit (.bool true)], args := [d1, d2] }
  | _ => none }
def fnDepsTwiceRow : OpenClaim := { program := "ytfibddeafddjoaa", sum := "71343f0ba084e49aa1de9103fcd68847992d7530819a7b8bf93d55f8cc8bb903", func := "loop.example/tombolo/laws.FnDepsTwice", spec := "fnDepsTwice", apart := false }
def FnDepsTwiceSaid : Prop := fnDepsTwiceRow.holds Try.pinned (OpenSpec.ofChange fnDepsTwiceSpec)

/-- ITS FALSE NEIGHBOUR: 'it returns false'. Refute it at one input. -/
def fnDepsTwiceWrong : ChangeSpec := { name := "fnDepsTwice", fn := fun _ => fun
  | [d1, d2] => { results := [.lit (.bool false)], args := [d1, d2] }
  | _ => none }
def FnDepsTwiceWrongFalsely : Prop := fnDepsTwiceRow.holds Try.pinned (OpenSpec.ofChange fnDepsTwiceWrong)

/-- 'laws.FnDepsSelf': WHATEVER THE INPUT: true; the input reads as it did. -/
def fnDepsSelfSpec : ChangeSpec := { name := "fnDepsSelf", fn := fun _ => fun
  | [d] => { results := [.lit (.bool true)], args := [d] }
  | _ => none }
def fnDepsSelfRow : OpenClaim := { program := "ytfibddeafddjoaa", sum := "71343f0ba084e49aa1de9103fcd68847992d7530819a7b8bf93d55f8cc8bb903", func := "loop.example/tombolo/laws.FnDepsSelf", spec := "fnDepsSelf", apart := false }
def FnDepsSelfSaid : Prop := fnDepsSelfRow.holds Try.pinned (OpenSpec.ofChange fnDepsSelfSpec)

/-- ITS FALSE NEIGHBOUR: 'it returns false'. Refute it at one input. -/
def fnDepsSelfWrong : ChangeSpec := { name := "fnDepsSelf", fn := fun _ => fun
  | [d] => { results := [.lit (.bool false)], args := [d] }
  | _ => none }
def FnDepsSelfWrongFalsely : Prop := fnDepsSelfRow.holds Try.pinned (OpenSpec.ofChange fnDepsSelfWrong)

/-- 'laws.FnDepsPut': WHATEVER THE INPUT: true; the input reads as it did. -/
def fnDepsPutSpec : ChangeSpec := { name := "fnDepsPut", fn := fun _ => fun
  | [d] => { results := [.lit (.bool true)], args := [d] }
  | _ => none }
def fnDepsPutRow : OpenClaim := { program := "ytfibddeafddjoaa", sum := "71343f0ba084e49aa1de9103fcd68847992d7530819a7b8bf93d55f8cc8bb903", func := "loop.example/tombolo/laws.FnDepsPut", spec := "fnDepsPut", apart := false }
def FnDepsPutSaid : Prop := fnDepsPutRow.holds Try.pinned (OpenSpec.ofChange fnDepsPutSpec)

/-- ITS FALSE NEIGHBOUR: 'it returns false'. Refute it at one input. -/
def fnDepsPutWrong : ChangeSpec := { name := "fnDepsPut", fn := fun _ => fun
  | [d] => { results := [.lit (.bool false)], args := [d] }
  | _ => none }
def FnDepsPutWrongFalsely : Prop := fnDepsPutRow.holds Try.pinned (OpenSpec.ofChange fnDepsPutWrong)

/-- 'laws.FnExactDepsPut': WHATEVER THE INPUT: true; the input reads as it did. -/
def fnExactDepsPutSpec : ChangeSpec := { name := "fnExactDepsPut", fn := fun _ => fun
  | [d1, d2] => { results := [.lit (.bool true)], args := [d1, d2] }
  | _ => none }
def fnExactDepsPutRow : OpenClaim := { program := "ytfibddeafddjoaa", sum := "71343f0ba084e49aa1de9103fcd68847992d7530819a7b8bf93d55f8cc8bb903", func := "loop.example/tombolo/laws.FnExactDepsPut", spec := "fnExactDepsPut", apart := false }
def FnExactDepsPutSaid : Prop := fnExactDepsPutRow.holds Try.pinned (OpenSpec.ofChange fnExactDepsPutSpec)

/-- ITS FALSE NEIGHBOUR: 'it returns false'. Refute it at one input. -/
def fnExactDepsPutWrong : ChangeSpec := { name := "fnExactDepsPut", fn := fun _ => fun
  | [d1, d2] => { results := [.lit (.bool false)], args := [d1, d2] }
  | _ => none }
def FnExactDepsPutWrongFalsely : Prop := fnExactDepsPutRow.holds Try.pinned (OpenSpec.ofChange fnExactDepsPutWrong)

/-- 'laws.FnDepsThree': WHATEVER THE INPUT: true; the input reads as it did. -/
def fnDepsThreeSpec : ChangeSpec := { name := "fnDepsThree", fn := fun _ => fun
  | [d1, d2] => { results := [.lit (.bool true)], args := [d1, d2] }
  | _ => none }
def fnDepsThreeRow : OpenClaim := { program := "ytfibddeafddjoaa", sum := "71343f0ba084e49aa1de9103fcd68847992d7530819a7b8bf93d55f8cc8bb903", func := "loop.example/tombolo/laws.FnDepsThree", spec := "fnDepsThree", apart := false }
def FnDepsThreeSaid : Prop := fnDepsThreeRow.holds Try.pinned (OpenSpec.ofChange fnDepsThreeSpec)

/-- ITS FALSE NEIGHBOUR: 'it returns false'. Refute it at one input. -/
def fnDepsThreeWrong : ChangeSpec := { name := "fnDepsThree", fn := fun _ => fun
  | [d1, d2] => { results := [.lit (.bool false)], args := [d1, d2] }
  | _ => none }
def FnDepsThreeWrongFalsely : Prop := fnDepsThreeRow.holds Try.pinned (OpenSpec.ofChange fnDepsThreeWrong)

/-- 'laws.FnDepsJoin': WHATEVER THE INPUT: true; the input reads as it did. -/
def fnDepsJoinSpec : ChangeSpec := { name := "fnDepsJoin", fn := fun _ => fun
  | [d] => { results := [.lit (.bool true)], args := [d] }
  | _ => none }
def fnDepsJoinRow : OpenClaim := { program := "ytfibddeafddjoaa", sum := "71343f0ba084e49aa1de9103fcd68847992d7530819a7b8bf93d55f8cc8bb903", func := "loop.example/tombolo/laws.FnDepsJoin", spec := "fnDepsJoin", apart := false }
def FnDepsJoinSaid : Prop := fnDepsJoinRow.holds Try.pinned (OpenSpec.ofChange fnDepsJoinSpec)

/-- ITS FALSE NEIGHBOUR: 'it returns false'. Refute it at one input. -/
def fnDepsJoinWrong : ChangeSpec := { name := "fnDepsJoin", fn := fun _ => fun
  | [d] => { results := [.lit (.bool false)], args := [d] }
  | _ => none }
def FnDepsJoinWrongFalsely : Prop := fnDepsJoinRow.holds Try.pinned (OpenSpec.ofChange fnDepsJoinWrong)

/- THE SECOND FORM. 'bulk': how many values and letters a reading holds, each counted each time it is reached (what is shared counts as often as it is met; a slice's spare places count too). A statement '..UptoSaid' is the law's where the arguments, and the package variables that the reading takes, are together of bulk at most 1048576: NARROWER than '..Said'. Prove '..Said' where nothing that the law and all that it calls make is longer than what came in: it says more and counts as full. Else prove '..UptoSaid'. A law counts once. -/
mutual
def uptoBulk {H : Type} : DataW H → Nat
  | .lit (.string bytes) => bytes.length + 1
  | .lit _ => 1
  | .nil => 1
  | .ptr d => uptoBulk d + 1
  | .slice elems spare => uptoBulkAll elems + uptoBulkAll spare + 1
  | .agg parts => uptoBulkAll parts + 1
  | .iface _ d => uptoBulk d + 1
  | .map entries => uptoBulkEntries entries + 1
  | .held _ => 1
def uptoBulkAll {H : Type} : List (DataW H) → Nat
  | [] => 0
  | d :: r => uptoBulk d + uptoBulkAll r
def uptoBulkEntries {H : Type} : List (Lit × DataW H) → Nat
  | [] => 0
  | x :: r => uptoBulkEntry x + uptoBulkEntries r
def uptoBulkEntry {H : Type} : Lit × DataW H → Nat
  | (.string bytes, d) => bytes.length + uptoBulk d + 1
  | (_, d) => uptoBulk d + 1
 end
def uptoSmall : (H : Type) → List (DataW H) → Bool := fun _ ds => decide (uptoBulkAll ds ≤ 1048576)
def OpenSpec.upto (s : _root_.Go.ChangeSpec) : _root_.Go.OpenSpec := { _root_.Go.OpenSpec.ofChange s with cond := some uptoSmall }

/-- 'laws.FnExactDepsOk', WHERE WHAT IT READS IS OF BULK AT MOST 1048576: true; the input reads as it did. -/
def fnExactDepsOkUptoRow : OpenClaim := { program := "ytfibddeafddjoaa", sum := "71343f0ba084e49aa1de9103fcd68847992d7530819a7b8bf93d55f8cc8bb903", func := "loop.example/tombolo/laws.FnExactDepsOk", spec := "fnExactDepsOk", apart := false, narrowed := true }
def FnExactDepsOkUptoSaid : Prop := fnExactDepsOkUptoRow.holds Try.pinned (OpenSpec.upto fnExactDepsOkSpec)

/-- 'laws.FnExactDepsAt', WHERE WHAT IT READS IS OF BULK AT MOST 1048576: true; the input reads as it did. -/
def fnExactDepsAtUptoRow : OpenClaim := { program := "ytfibddeafddjoaa", sum := "71343f0ba084e49aa1de9103fcd68847992d7530819a7b8bf93d55f8cc8bb903", func := "loop.example/tombolo/laws.FnExactDepsAt", spec := "fnExactDepsAt", apart := false, narrowed := true }
def FnExactDepsAtUptoSaid : Prop := fnExactDepsAtUptoRow.holds Try.pinned (OpenSpec.upto fnExactDepsAtSpec)

/-- 'laws.FnDepsAt', WHERE WHAT IT READS IS OF BULK AT MOST 1048576: true; the input reads as it did. -/
def fnDepsAtUptoRow : OpenClaim := { program := "ytfibddeafddjoaa", sum := "71343f0ba084e49aa1de9103fcd68847992d7530819a7b8bf93d55f8cc8bb903", func := "loop.example/tombolo/laws.FnDepsAt", spec := "fnDepsAt", apart := false, narrowed := true }
def FnDepsAtUptoSaid : Prop := fnDepsAtUptoRow.holds Try.pinned (OpenSpec.upto fnDepsAtSpec)

/-- 'laws.FnVerOk', WHERE WHAT IT READS IS OF BULK AT MOST 1048576: true; the input reads as it did. -/
def fnVerOkUptoRow : OpenClaim := { program := "ytfibddeafddjoaa", sum := "71343f0ba084e49aa1de9103fcd68847992d7530819a7b8bf93d55f8cc8bb903", func := "loop.example/tombolo/laws.FnVerOk", spec := "fnVerOk", apart := false, narrowed := true }
def FnVerOkUptoSaid : Prop := fnVerOkUptoRow.holds Try.pinned (OpenSpec.upto fnVerOkSpec)

/-- 'laws.FnExactVerOk', WHERE WHAT IT READS IS OF BULK AT MOST 1048576: true; the input reads as it did. -/
def fnExactVerOkUptoRow : OpenClaim := { program := "ytfibddeafddjoaa", sum := "71343f0ba084e49aa1de9103fcd68847992d7530819a7b8bf93d55f8cc8bb903", func := "loop.example/tombolo/laws.FnExactVerOk", spec := "fnExactVerOk", apart := false, narrowed := true }
def FnExactVerOkUptoSaid : Prop := fnExactVerOkUptoRow.holds Try.pinned (OpenSpec.upto fnExactVerOkSpec)

/-- 'laws.FnDepsFew', WHERE WHAT IT READS IS OF BULK AT MOST 1048576: true; the input reads as it did. -/
def fnDepsFewUptoRow : OpenClaim := { program := "ytfibddeafddjoaa", sum := "71343f0ba084e49aa1de9103fcd68847992d7530819a7b8bf93d55f8cc8bb903", func := "loop.example/tombolo/laws.FnDepsFew", spec := "fnDepsFew", apart := false, narrowed := true }
def FnDepsFewUptoSaid : Prop := fnDepsFewUptoRow.holds Try.pinned (OpenSpec.upto fnDepsFewSpec)

/-- 'laws.FnDepsTwice', WHERE WHAT IT READS IS OF BULK AT MOST 1048576: true; the input reads as it did. -/
def fnDepsTwiceUptoRow : OpenClaim := { program := "ytfibddeafddjoaa", sum := "71343f0ba084e49aa1de9103fcd68847992d7530819a7b8bf93d55f8cc8bb903", func := "loop.example/tombolo/laws.FnDepsTwice", spec := "fnDepsTwice", apart := false, narrowed := true }
def FnDepsTwiceUptoSaid : Prop := fnDepsTwiceUptoRow.holds Try.pinned (OpenSpec.upto fnDepsTwiceSpec)

/-- 'laws.FnDepsSelf', WHERE WHAT IT READS IS OF BULK AT MOST 1048576: true; the input reads as it did. -/
def fnDepsSelfUptoRow : OpenClaim := { program := "ytfibddeafddjoaa", sum := "71343f0ba084e49aa1de9103fcd68847992d7530819a7b8bf93d55f8cc8bb903", func := "loop.example/tombolo/laws.FnDepsSelf", spec := "fnDepsSelf", apart := false, narrowed := true }
def FnDepsSelfUptoSaid : Prop := fnDepsSelfUptoRow.holds Try.pinned (OpenSpec.upto fnDepsSelfSpec)

/-- 'laws.FnDepsPut', WHERE WHAT IT READS IS OF BULK AT MOST 1048576: true; the input reads as it did. -/
def fnDepsPutUptoRow : OpenClaim := { program := "ytfibddeafddjoaa", sum := "71343f0ba084e49aa1de9103fcd68847992d7530819a7b8bf93d55f8cc8bb903", func := "loop.example/tombolo/laws.FnDepsPut", spec := "fnDepsPut", apart := false, narrowed := true }
def FnDepsPutUptoSaid : Prop := fnDepsPutUptoRow.holds Try.pinned (OpenSpec.upto fnDepsPutSpec)

/-- 'laws.FnExactDepsPut', WHERE WHAT IT READS IS OF BULK AT MOST 1048576: true; the input reads as it did. -/
def fnExactDepsPutUptoRow : OpenClaim := { program := "ytfibddeafddjoaa", sum := "71343f0ba084e49aa1de9103fcd68847992d7530819a7b8bf93d55f8cc8bb903", func := "loop.example/tombolo/laws.FnExactDepsPut", spec := "fnExactDepsPut", apart := false, narrowed := true }
def FnExactDepsPutUptoSaid : Prop := fnExactDepsPutUptoRow.holds Try.pinned (OpenSpec.upto fnExactDepsPutSpec)

/-- 'laws.FnDepsThree', WHERE WHAT IT READS IS OF BULK AT MOST 1048576: true; the input reads as it did. -/
def fnDepsThreeUptoRow : OpenClaim := { program := "ytfibddeafddjoaa", sum := "71343f0ba084e49aa1de9103fcd68847992d7530819a7b8bf93d55f8cc8bb903", func := "loop.example/tombolo/laws.FnDepsThree", spec := "fnDepsThree", apart := false, narrowed := true }
def FnDepsThreeUptoSaid : Prop := fnDepsThreeUptoRow.holds Try.pinned (OpenSpec.upto fnDepsThreeSpec)

/-- 'laws.FnDepsJoin', WHERE WHAT IT READS IS OF BULK AT MOST 1048576: true; the input reads as it did. -/
def fnDepsJoinUptoRow : OpenClaim := { program := "ytfibddeafddjoaa", sum := "71343f0ba084e49aa1de9103fcd68847992d7530819a7b8bf93d55f8cc8bb903", func := "loop.example/tombolo/laws.FnDepsJoin", spec := "fnDepsJoin", apart := false, narrowed := true }
def FnDepsJoinUptoSaid : Prop := fnDepsJoinUptoRow.holds Try.pinned (OpenSpec.upto fnDepsJoinSpec)

end Rows
end Go.Proofs.Ytfibddeafddjoaa
