/-
  No cell of these rows narrows 'for every input' (looked for: loops, veiled, ifaces, maps, wideKeys, modest, calm, conditions, laid).
  DERIVED. THE GIVEN ROWS OF THIS SEAT. 7 by the template 'for every input the law returns true; each argument reads behind the call as it read before'; 0 by the template 'total and deterministic' (their statements: YthciikogogkfcaaTotals.lean).
  GIVEN WITH THE SEED: the statements are not yours to turn. If you find one false, say at which input.
  Laid BY PROGRAM, IN A SANDBOX (cutbox-rows.mjs): the forced cells as the released guide's own fill.sh prints them over the translation 3c8a285afb4652a2… (all of the seat's roots in one cut). By AI agents, Wed Nov 11 2026. No macro, syntax, notation, axiom, sorry.
-/
import Derived.Test.YthciikogogkfcaaChecked
import GoSem.Claim
import GoSem.ClaimJoined
import GoSem.ClaimMapViews
import Derived.JoinedTies
import Derived.KernelRfl
namespace Go.Proofs.Ythciikogogkfcaa
/- THE CELL 'sum', in the pinned program and in every row, IS THE sha256 OF THE DUMP (.gsa) THAT YthciikogogkfcaaProg.lean LOADS. Nothing in Lean hashes anything: it is a label: what it is worth is what the hold of that sum in a sandbox is worth. -/
noncomputable def Try.pinned : Pinned := { name := "ythciikogogkfcaa", sum := "3c8a285afb4652a294ab98cd47c087fe7fff46cb9f45baf517d69da027eb7408", checked := Try.checked }
namespace Rows
def none {H : Type} : Left H := { results := [], args := [] }

/-- 'laws.FnVerOk': WHATEVER THE INPUT: true; the input reads as it did. -/
def fnVerOkSpec : ChangeSpec := { name := "fnVerOk", fn := fun _ => fun
  | [d] => { results := [.lit (.bool true)], args := [d] }
  | _ => none }
def fnVerOkRow : OpenClaim := { program := "ythciikogogkfcaa", sum := "3c8a285afb4652a294ab98cd47c087fe7fff46cb9f45baf517d69da027eb7408", func := "loop.example/tombolo/laws.FnVerOk", spec := "fnVerOk", apart := false }
def FnVerOkSaid : Prop := fnVerOkRow.holds Try.pinned (OpenSpec.ofChange fnVerOkSpec)

/-- ITS FALSE NEIGHBOUR: 'it returns false'. Refute it at one input. -/
def fnVerOkWrong : ChangeSpec := { name := "fnVerOk", fn := fun _ => fun
  | [d] => { results := [.lit (.bool false)], args := [d] }
  | _ => none }
def FnVerOkWrongFalsely : Prop := fnVerOkRow.holds Try.pinned (OpenSpec.ofChange fnVerOkWrong)

/-- 'laws.FnExactChainAt': WHATEVER THE INPUT: true; the input reads as it did. -/
def fnExactChainAtSpec : ChangeSpec := { name := "fnExactChainAt", fn := fun _ => fun
  | [d1, d2, d3] => { results := [.lit (.bool true)], args := [d1, d2, d3] }
  | _ => none }
def fnExactChainAtRow : OpenClaim := { program := "ythciikogogkfcaa", sum := "3c8a285afb4652a294ab98cd47c087fe7fff46cb9f45baf517d69da027eb7408", func := "loop.example/tombolo/laws.FnExactChainAt", spec := "fnExactChainAt", unfollowed := true, recurses := true, apart := false }
def FnExactChainAtSaid : Prop := fnExactChainAtRow.holds Try.pinned (OpenSpec.ofChange fnExactChainAtSpec)

/-- ITS FALSE NEIGHBOUR: 'it returns false'. Refute it at one input. -/
def fnExactChainAtWrong : ChangeSpec := { name := "fnExactChainAt", fn := fun _ => fun
  | [d1, d2, d3] => { results := [.lit (.bool false)], args := [d1, d2, d3] }
  | _ => none }
def FnExactChainAtWrongFalsely : Prop := fnExactChainAtRow.holds Try.pinned (OpenSpec.ofChange fnExactChainAtWrong)

/-- 'laws.FnWordOk': WHATEVER THE INPUT: true; the input reads as it did. -/
def fnWordOkSpec : ChangeSpec := { name := "fnWordOk", fn := fun _ => fun
  | [d] => { results := [.lit (.bool true)], args := [d] }
  | _ => none }
def fnWordOkRow : OpenClaim := { program := "ythciikogogkfcaa", sum := "3c8a285afb4652a294ab98cd47c087fe7fff46cb9f45baf517d69da027eb7408", func := "loop.example/tombolo/laws.FnWordOk", spec := "fnWordOk", apart := false }
def FnWordOkSaid : Prop := fnWordOkRow.holds Try.pinned (OpenSpec.ofChange fnWordOkSpec)

/-- ITS FALSE NEIGHBOUR: 'it returns false'. Refute it at one input. -/
def fnWordOkWrong : ChangeSpec := { name := "fnWordOk", fn := fun _ => fun
  | [d] => { results := [.lit (.bool false)], args := [d] }
  | _ => none }
def FnWordOkWrongFalsely : Prop := fnWordOkRow.holds Try.pinned (OpenSpec.ofChange fnWordOkWrong)

/-- 'laws.FnExactServerOk': WHATEVER THE INPUT: true; the input reads as it did. -/
def fnExactServerOkSpec : ChangeSpec := { name := "fnExactServerOk", fn := fun _ => fun
  | [d] => { results := [.lit (.bool true)], args := [d] }
  | _ => none }
def fnExactServerOkRow : OpenClaim := { program := "ythciikogogkfcaa", sum := "3c8a285afb4652a294ab98cd47c087fe7fff46cb9f45baf517d69da027eb7408", func := "loop.example/tombolo/laws.FnExactServerOk", spec := "fnExactServerOk", unfollowed := true, recurses := true, apart := false }
def FnExactServerOkSaid : Prop := fnExactServerOkRow.holds Try.pinned (OpenSpec.ofChange fnExactServerOkSpec)

/-- ITS FALSE NEIGHBOUR: 'it returns false'. Refute it at one input. -/
def fnExactServerOkWrong : ChangeSpec := { name := "fnExactServerOk", fn := fun _ => fun
  | [d] => { results := [.lit (.bool false)], args := [d] }
  | _ => none }
def FnExactServerOkWrongFalsely : Prop := fnExactServerOkRow.holds Try.pinned (OpenSpec.ofChange fnExactServerOkWrong)

/-- 'laws.FnExactServerOwns': WHATEVER THE INPUT: true; the input reads as it did. -/
def fnExactServerOwnsSpec : ChangeSpec := { name := "fnExactServerOwns", fn := fun _ => fun
  | [d1, d2] => { results := [.lit (.bool true)], args := [d1, d2] }
  | _ => none }
def fnExactServerOwnsRow : OpenClaim := { program := "ythciikogogkfcaa", sum := "3c8a285afb4652a294ab98cd47c087fe7fff46cb9f45baf517d69da027eb7408", func := "loop.example/tombolo/laws.FnExactServerOwns", spec := "fnExactServerOwns", unfollowed := true, recurses := true, apart := false }
def FnExactServerOwnsSaid : Prop := fnExactServerOwnsRow.holds Try.pinned (OpenSpec.ofChange fnExactServerOwnsSpec)

/-- ITS FALSE NEIGHBOUR: 'it returns false'. Refute it at one input. -/
def fnExactServerOwnsWrong : ChangeSpec := { name := "fnExactServerOwns", fn := fun _ => fun
  | [d1, d2] => { results := [.lit (.bool false)], args := [d1, d2] }
  | _ => none }
def FnExactServerOwnsWrongFalsely : Prop := fnExactServerOwnsRow.holds Try.pinned (OpenSpec.ofChange fnExactServerOwnsWrong)

/-- 'laws.FnExactCallOk': WHATEVER THE INPUT: true; the input reads as it did. -/
def fnExactCallOkSpec : ChangeSpec := { name := "fnExactCallOk", fn := fun _ => fun
  | [d1, d2] => { results := [.lit (.bool true)], args := [d1, d2] }
  | _ => none }
def fnExactCallOkRow : OpenClaim := { program := "ythciikogogkfcaa", sum := "3c8a285afb4652a294ab98cd47c087fe7fff46cb9f45baf517d69da027eb7408", func := "loop.example/tombolo/laws.FnExactCallOk", spec := "fnExactCallOk", unfollowed := true, recurses := true, apart := false }
def FnExactCallOkSaid : Prop := fnExactCallOkRow.holds Try.pinned (OpenSpec.ofChange fnExactCallOkSpec)

/-- ITS FALSE NEIGHBOUR: 'it returns false'. Refute it at one input. -/
def fnExactCallOkWrong : ChangeSpec := { name := "fnExactCallOk", fn := fun _ => fun
  | [d1, d2] => { results := [.lit (.bool false)], args := [d1, d2] }
  | _ => none }
def FnExactCallOkWrongFalsely : Prop := fnExactCallOkRow.holds Try.pinned (OpenSpec.ofChange fnExactCallOkWrong)

/-- 'laws.FnExactCallSaw': WHATEVER THE INPUT: true; the input reads as it did. -/
def fnExactCallSawSpec : ChangeSpec := { name := "fnExactCallSaw", fn := fun _ => fun
  | [d] => { results := [.lit (.bool true)], args := [d] }
  | _ => none }
def fnExactCallSawRow : OpenClaim := { program := "ythciikogogkfcaa", sum := "3c8a285afb4652a294ab98cd47c087fe7fff46cb9f45baf517d69da027eb7408", func := "loop.example/tombolo/laws.FnExactCallSaw", spec := "fnExactCallSaw", unfollowed := true, recurses := true, apart := false }
def FnExactCallSawSaid : Prop := fnExactCallSawRow.holds Try.pinned (OpenSpec.ofChange fnExactCallSawSpec)

/-- ITS FALSE NEIGHBOUR: 'it returns false'. Refute it at one input. -/
def fnExactCallSawWrong : ChangeSpec := { name := "fnExactCallSaw", fn := fun _ => fun
  | [d] => { results := [.lit (.bool false)], args := [d] }
  | _ => none }
def FnExactCallSawWrongFalsely : Prop := fnExactCallSawRow.holds Try.pinned (OpenSpec.ofChange fnExactCallSawWrong)

/- THE SECOND FORM. 'bulk': how many values and letters a reading holds, each counted each time it is reached (what is shared counts as often as it is met; a slice's spare places count too). A statement '..UptoSaid' is the law's where the arguments, and the package variables that the reading takes, are together of bulk at most 1048576: NARROWER than '..Said'. Prove '..Said' where nothing that the law and all that it calls make is longer than what came in: it says more and counts as full. Else prove '..UptoSaid'. A law counts once. -/
mutual
def uptoBulk {H : Type} : DataW H → Nat
  | .lit (.string bytes) => bytes.length + 1
  | .lit _ => 1
  | .nil => 1
  | .ptr d => uptoBulk d + 1
  | .slice elems spare => uptoBulkAll elems + uptoBulkAll spare + 1
  | .agg parts => uptoBulkAll parts + 1
  | .iface _ d => uptoBulk d + 1
  | .map entries => uptoBulkEntries entries + 1
  | .held _ => 1
def uptoBulkAll {H : Type} : List (DataW H) → Nat
  | [] => 0
  | d :: r => uptoBulk d + uptoBulkAll r
def uptoBulkEntries {H : Type} : List (Lit × DataW H) → Nat
  | [] => 0
  | x :: r => uptoBulkEntry x + uptoBulkEntries r
def uptoBulkEntry {H : Type} : Lit × DataW H → Nat
  | (.string bytes, d) => bytes.length + uptoBulk d + 1
  | (_, d) => uptoBulk d + 1
 end
def uptoSmall : (H : Type) → List (DataW H) → Bool := fun _ ds => decide (uptoBulkAll ds ≤ 1048576)
def OpenSpec.upto (s : _root_.Go.ChangeSpec) : _root_.Go.OpenSpec := { _root_.Go.OpenSpec.ofChange s with cond := some uptoSmall }

/-- 'laws.FnVerOk', WHERE WHAT IT READS IS OF BULK AT MOST 1048576: true; the input reads as it did. -/
def fnVerOkUptoRow : OpenClaim := { program := "ythciikogogkfcaa", sum := "3c8a285afb4652a294ab98cd47c087fe7fff46cb9f45baf517d69da027eb7408", func := "loop.example/tombolo/laws.FnVerOk", spec := "fnVerOk", apart := false, narrowed := true }
def FnVerOkUptoSaid : Prop := fnVerOkUptoRow.holds Try.pinned (OpenSpec.upto fnVerOkSpec)

/-- 'laws.FnExactChainAt', WHERE WHAT IT READS IS OF BULK AT MOST 1048576: true; the input reads as it did. -/
def fnExactChainAtUptoRow : OpenClaim := { program := "ythciikogogkfcaa", sum := "3c8a285afb4652a294ab98cd47c087fe7fff46cb9f45baf517d69da027eb7408", func := "loop.example/tombolo/laws.FnExactChainAt", spec := "fnExactChainAt", unfollowed := true, recurses := true, apart := false, narrowed := true }
def FnExactChainAtUptoSaid : Prop := fnExactChainAtUptoRow.holds Try.pinned (OpenSpec.upto fnExactChainAtSpec)

/-- 'laws.FnWordOk', WHERE WHAT IT READS IS OF BULK AT MOST 1048576: true; the input reads as it did. -/
def fnWordOkUptoRow : OpenClaim := { program := "ythciikogogkfcaa", sum := "3c8a285afb4652a294ab98cd47c087fe7fff46cb9f45baf517d69da027eb7408", func := "loop.example/tombolo/laws.FnWordOk", spec := "fnWordOk", apart := false, narrowed := true }
def FnWordOkUptoSaid : Prop := fnWordOkUptoRow.holds Try.pinned (OpenSpec.upto fnWordOkSpec)

/-- 'laws.FnExactServerOk', WHERE WHAT IT READS IS OF BULK AT MOST 1048576: true; the input reads as it did. -/
def fnExactServerOkUptoRow : OpenClaim := { program := "ythciikogogkfcaa", sum := "3c8a285afb4652a294ab98cd47c087fe7fff46cb9f45baf517d69da027eb7408", func := "loop.example/tombolo/laws.FnExactServerOk", spec := "fnExactServerOk", unfollowed := true, recurses := true, apart := false, narrowed := true }
def FnExactServerOkUptoSaid : Prop := fnExactServerOkUptoRow.holds Try.pinned (OpenSpec.upto fnExactServerOkSpec)

/-- 'laws.FnExactServerOwns', WHERE WHAT IT READS IS OF BULK AT MOST 1048576: true; the input reads as it did. -/
def fnExactServerOwnsUptoRow : OpenClaim := { program := "ythciikogogkfcaa", sum := "3c8a285afb4652a294ab98cd47c087fe7fff46cb9f45baf517d69da027eb7408", func := "loop.example/tombolo/laws.FnExactServerOwns", spec := "fnExactServerOwns", unfollowed := true, recurses := true, apart := false, narrowed := true }
def FnExactServerOwnsUptoSaid : Prop := fnExactServerOwnsUptoRow.holds Try.pinned (OpenSpec.upto fnExactServerOwnsSpec)

/-- 'laws.FnExactCallOk', WHERE WHAT IT READS IS OF BULK AT MOST 1048576: true; the input reads as it did. -/
def fnExactCallOkUptoRow : OpenClaim := { program := "ythciikogogkfcaa", sum := "3c8a285afb4652a294ab98cd47c087fe7fff46cb9f45baf517d69da027eb7408", func := "loop.example/tombolo/laws.FnExactCallOk", spec := "fnExactCallOk", unfollowed := true, recurses := true, apart := false, narrowed := true }
def FnExactCallOkUptoSaid : Prop := fnExactCallOkUptoRow.holds Try.pinned (OpenSpec.upto fnExactCallOkSpec)

/-- 'laws.FnExactCallSaw', WHERE WHAT IT READS IS OF BULK AT MOST 1048576: true; the input reads as it did. -/
def fnExactCallSawUptoRow : OpenClaim := { program := "ythciikogogkfcaa", sum := "3c8a285afb4652a294ab98cd47c087fe7fff46cb9f45baf517d69da027eb7408", func := "loop.example/tombolo/laws.FnExactCallSaw", spec := "fnExactCallSaw", unfollowed := true, recurses := true, apart := false, narrowed := true }
def FnExactCallSawUptoSaid : Prop := fnExactCallSawUptoRow.holds Try.pinned (OpenSpec.upto fnExactCallSawSpec)

end Rows
end Go.Proofs.Ythciikogogkfcaa
