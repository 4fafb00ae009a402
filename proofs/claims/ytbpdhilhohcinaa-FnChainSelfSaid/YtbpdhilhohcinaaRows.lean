/-
  No cell of these rows narrows 'for every input' (looked for: loops, veiled, ifaces, maps, wideKeys, modest, calm, conditions, laid).
  DERIVED. THE GIVEN ROWS OF THIS SEAT. 12 by the template 'for every input the law returns true; each argument reads behind the call as it read before'; 0 by the template 'total and deterministic' (their statements: YtbpdhilhohcinaaTotals.lean).
  GIVEN WITH THE SEED: the statements are not yours to turn. If you find one false, say at which input.
  Laid BY PROGRAM, IN A SANDBOX (cutbox-rows.mjs): the forced cells as the released guide's own fill.sh prints them over the translation 3a5813c0ef297de8… (all of the seat's roots in one cut). By AI agents, Wed Nov 11 2026. No macro, syntax, notation, axiom, sorry.
-/
import Derived.Test.YtbpdhilhohcinaaChecked
import GoSem.Claim
import GoSem.ClaimJoined
import GoSem.ClaimMapViews
import Derived.JoinedTies
import Derived.KernelRfl
namespace Go.Proofs.Ytbpdhilhohcinaa
/- THE CELL 'sum', in the pinned program and in every row, IS THE sha256 OF THE DUMP (.gsa) THAT YtbpdhilhohcinaaProg.lean LOADS. Nothing in Lean hashes anything: it is a label: what it is worth is what the hold of that sum in a sandbox is worth. -/
noncomputable def Try.pinned : Pinned := { name := "ytbpdhilhohcinaa", sum := "3a5813c0ef297de8d3591c800b1b0576ea6c37d7c78878b4378ccabd7f17411f", checked := Try.checked }
namespace Rows
def none {H : Type} : Left H := { results := [], args := [] }

/-- 'laws.FnExactCallOk': WHATEVER THE INPUT: true; the input reads as it did. -/
def fnExactCallOkSpec : ChangeSpec := { name := "fnExactCallOk", fn := fun _ => fun
  | [d1, d2] => { results := [.lit (.bool true)], args := [d1, d2] }
  | _ => none }
def fnExactCallOkRow : OpenClaim := { program := "ytbpdhilhohcinaa", sum := "3a5813c0ef297de8d3591c800b1b0576ea6c37d7c78878b4378ccabd7f17411f", func := "loop.example/tombolo/laws.FnExactCallOk", spec := "fnExactCallOk", unfollowed := true, recurses := true, apart := false }
def FnExactCallOkSaid : Prop := fnExactCallOkRow.holds Try.pinned (OpenSpec.ofChange fnExactCallOkSpec)

/-- ITS FALSE NEIGHBOUR: 'it returns false'. Refute it at one input. -/
def fnExactCallOkWrong : ChangeSpec := { name := "fnExactCallOk", fn := fun _ => fun
  | [d1, d2] => { results := [.lit (.bool false)], args := [d1, d2] }
  | _ => none }
def FnExactCallOkWrongFalsely : Prop := fnExactCallOkRow.holds Try.pinned (OpenSpec.ofChange fnExactCallOkWrong)

/-- 'laws.FnExactCallSaw': WHATEVER THE INPUT: true; the input reads as it did. -/
def fnExactCallSawSpec : ChangeSpec := { name := "fnExactCallSaw", fn := fun _ => fun
  | [d] => { results := [.lit (.bool true)], args := [d] }
  | _ => none }
def fnExactCallSawRow : OpenClaim := { program := "ytbpdhilhohcinaa", sum := "3a5813c0ef297de8d3591c800b1b0576ea6c37d7c78878b4378ccabd7f17411f", func := "loop.example/tombolo/laws.FnExactCallSaw", spec := "fnExactCallSaw", unfollowed := true, recurses := true, apart := false }
def FnExactCallSawSaid : Prop := fnExactCallSawRow.holds Try.pinned (OpenSpec.ofChange fnExactCallSawSpec)

/-- ITS FALSE NEIGHBOUR: 'it returns false'. Refute it at one input. -/
def fnExactCallSawWrong : ChangeSpec := { name := "fnExactCallSaw", fn := fun _ => fun
  | [d] => { results := [.lit (.bool false)], args := [d] }
  | _ => none }
def FnExactCallSawWrongFalsely : Prop := fnExactCallSawRow.holds Try.pinned (OpenSpec.ofChange fnExactCallSawWrong)

/-- 'laws.FnWordOk': WHATEVER THE INPUT: true; the input reads as it did. -/
def fnWordOkSpec : ChangeSpec := { name := "fnWordOk", fn := fun _ => fun
  | [d] => { results := [.lit (.bool true)], args := [d] }
  | _ => none }
def fnWordOkRow : OpenClaim := { program := "ytbpdhilhohcinaa", sum := "3a5813c0ef297de8d3591c800b1b0576ea6c37d7c78878b4378ccabd7f17411f", func := "loop.example/tombolo/laws.FnWordOk", spec := "fnWordOk", apart := false }
def FnWordOkSaid : Prop := fnWordOkRow.holds Try.pinned (OpenSpec.ofChange fnWordOkSpec)

/-- ITS FALSE NEIGHBOUR: 'it returns false'. Refute it at one input. -/
def fnWordOkWrong : ChangeSpec := { name := "fnWordOk", fn := fun _ => fun
  | [d] => { results := [.lit (.bool false)], args := [d] }
  | _ => none }
def FnWordOkWrongFalsely : Prop := fnWordOkRow.holds Try.pinned (OpenSpec.ofChange fnWordOkWrong)

/-- 'laws.FnChainNone': WHATEVER THE INPUT: true; the input reads as it did. -/
def fnChainNoneSpec : ChangeSpec := { name := "fnChainNone", fn := fun _ => fun
  | [d] => { results := [.lit (.bool true)], args := [d] }
  | _ => none }
def fnChainNoneRow : OpenClaim := { program := "ytbpdhilhohcinaa", sum := "3a5813c0ef297de8d3591c800b1b0576ea6c37d7c78878b4378ccabd7f17411f", func := "loop.example/tombolo/laws.FnChainNone", spec := "fnChainNone", unfollowed := true, recurses := true, apart := false }
def FnChainNoneSaid : Prop := fnChainNoneRow.holds Try.pinned (OpenSpec.ofChange fnChainNoneSpec)

/-- ITS FALSE NEIGHBOUR: 'it returns false'. Refute it at one input. -/
def fnChainNoneWrong : ChangeSpec := { name := "fnChainNone", fn := fun _ => fun
  | [d] => { results := [.lit (.bool false)], args := [d] }
  | _ => none }
def FnChainNoneWrongFalsely : Prop := fnChainNoneRow.holds Try.pinned (OpenSpec.ofChange fnChainNoneWrong)

/-- 'laws.FnChainAt': WHATEVER THE INPUT: true; the input reads as it did. -/
def fnChainAtSpec : ChangeSpec := { name := "fnChainAt", fn := fun _ => fun
  | [d] => { results := [.lit (.bool true)], args := [d] }
  | _ => none }
def fnChainAtRow : OpenClaim := { program := "ytbpdhilhohcinaa", sum := "3a5813c0ef297de8d3591c800b1b0576ea6c37d7c78878b4378ccabd7f17411f", func := "loop.example/tombolo/laws.FnChainAt", spec := "fnChainAt", unfollowed := true, recurses := true, apart := false }
def FnChainAtSaid : Prop := fnChainAtRow.holds Try.pinned (OpenSpec.ofChange fnChainAtSpec)

/-- ITS FALSE NEIGHBOUR: 'it returns false'. Refute it at one input. -/
def fnChainAtWrong : ChangeSpec := { name := "fnChainAt", fn := fun _ => fun
  | [d] => { results := [.lit (.bool false)], args := [d] }
  | _ => none }
def FnChainAtWrongFalsely : Prop := fnChainAtRow.holds Try.pinned (OpenSpec.ofChange fnChainAtWrong)

/-- 'laws.FnChainTop': WHATEVER THE INPUT: true; the input reads as it did. -/
def fnChainTopSpec : ChangeSpec := { name := "fnChainTop", fn := fun _ => fun
  | [d] => { results := [.lit (.bool true)], args := [d] }
  | _ => none }
def fnChainTopRow : OpenClaim := { program := "ytbpdhilhohcinaa", sum := "3a5813c0ef297de8d3591c800b1b0576ea6c37d7c78878b4378ccabd7f17411f", func := "loop.example/tombolo/laws.FnChainTop", spec := "fnChainTop", unfollowed := true, recurses := true, apart := false }
def FnChainTopSaid : Prop := fnChainTopRow.holds Try.pinned (OpenSpec.ofChange fnChainTopSpec)

/-- ITS FALSE NEIGHBOUR: 'it returns false'. Refute it at one input. -/
def fnChainTopWrong : ChangeSpec := { name := "fnChainTop", fn := fun _ => fun
  | [d] => { results := [.lit (.bool false)], args := [d] }
  | _ => none }
def FnChainTopWrongFalsely : Prop := fnChainTopRow.holds Try.pinned (OpenSpec.ofChange fnChainTopWrong)

/-- 'laws.FnChainSelf': WHATEVER THE INPUT: true; the input reads as it did. -/
def fnChainSelfSpec : ChangeSpec := { name := "fnChainSelf", fn := fun _ => fun
  | [d] => { results := [.lit (.bool true)], args := [d] }
  | _ => none }
def fnChainSelfRow : OpenClaim := { program := "ytbpdhilhohcinaa", sum := "3a5813c0ef297de8d3591c800b1b0576ea6c37d7c78878b4378ccabd7f17411f", func := "loop.example/tombolo/laws.FnChainSelf", spec := "fnChainSelf", unfollowed := true, recurses := true, apart := false }
def FnChainSelfSaid : Prop := fnChainSelfRow.holds Try.pinned (OpenSpec.ofChange fnChainSelfSpec)

/-- ITS FALSE NEIGHBOUR: 'it returns false'. Refute it at one input. -/
def fnChainSelfWrong : ChangeSpec := { name := "fnChainSelf", fn := fun _ => fun
  | [d] => { results := [.lit (.bool false)], args := [d] }
  | _ => none }
def FnChainSelfWrongFalsely : Prop := fnChainSelfRow.holds Try.pinned (OpenSpec.ofChange fnChainSelfWrong)

/-- 'laws.FnChainParts': WHATEVER THE INPUT: true; the input reads as it did. -/
def fnChainPartsSpec : ChangeSpec := { name := "fnChainParts", fn := fun _ => fun
  | [d] => { results := [.lit (.bool true)], args := [d] }
  | _ => none }
def fnChainPartsRow : OpenClaim := { program := "ytbpdhilhohcinaa", sum := "3a5813c0ef297de8d3591c800b1b0576ea6c37d7c78878b4378ccabd7f17411f", func := "loop.example/tombolo/laws.FnChainParts", spec := "fnChainParts", apart := false }
def FnChainPartsSaid : Prop := fnChainPartsRow.holds Try.pinned (OpenSpec.ofChange fnChainPartsSpec)

/-- ITS FALSE NEIGHBOUR: 'it returns false'. Refute it at one input. -/
def fnChainPartsWrong : ChangeSpec := { name := "fnChainParts", fn := fun _ => fun
  | [d] => { results := [.lit (.bool false)], args := [d] }
  | _ => none }
def FnChainPartsWrongFalsely : Prop := fnChainPartsRow.holds Try.pinned (OpenSpec.ofChange fnChainPartsWrong)

/-- 'laws.FnChainFull': WHATEVER THE INPUT: true; the input reads as it did. -/
def fnChainFullSpec : ChangeSpec := { name := "fnChainFull", fn := fun _ => fun
  | [d] => { results := [.lit (.bool true)], args := [d] }
  | _ => none }
def fnChainFullRow : OpenClaim := { program := "ytbpdhilhohcinaa", sum := "3a5813c0ef297de8d3591c800b1b0576ea6c37d7c78878b4378ccabd7f17411f", func := "loop.example/tombolo/laws.FnChainFull", spec := "fnChainFull", inPlace := ["slices.overlaps[loop.example/tombolo/impl.Ver]"], unfollowed := true, recurses := true, apart := false }
def FnChainFullSaid : Prop := fnChainFullRow.holds Try.pinned (OpenSpec.ofChange fnChainFullSpec)

/-- ITS FALSE NEIGHBOUR: 'it returns false'. Refute it at one input. -/
def fnChainFullWrong : ChangeSpec := { name := "fnChainFull", fn := fun _ => fun
  | [d] => { results := [.lit (.bool false)], args := [d] }
  | _ => none }
def FnChainFullWrongFalsely : Prop := fnChainFullRow.holds Try.pinned (OpenSpec.ofChange fnChainFullWrong)

/-- 'laws.FnChainTurn': WHATEVER THE INPUT: true; the input reads as it did. -/
def fnChainTurnSpec : ChangeSpec := { name := "fnChainTurn", fn := fun _ => fun
  | [d1, d2] => { results := [.lit (.bool true)], args := [d1, d2] }
  | _ => none }
def fnChainTurnRow : OpenClaim := { program := "ytbpdhilhohcinaa", sum := "3a5813c0ef297de8d3591c800b1b0576ea6c37d7c78878b4378ccabd7f17411f", func := "loop.example/tombolo/laws.FnChainTurn", spec := "fnChainTurn", inPlace := ["slices.overlaps[loop.example/tombolo/impl.Ver]"], unfollowed := true, recurses := true, apart := false }
def FnChainTurnSaid : Prop := fnChainTurnRow.holds Try.pinned (OpenSpec.ofChange fnChainTurnSpec)

/-- ITS FALSE NEIGHBOUR: 'it returns false'. Refute it at one input. -/
def fnChainTurnWrong : ChangeSpec := { name := "fnChainTurn", fn := fun _ => fun
  | [d1, d2] => { results := [.lit (.bool false)], args := [d1, d2] }
  | _ => none }
def FnChainTurnWrongFalsely : Prop := fnChainTurnRow.holds Try.pinned (OpenSpec.ofChange fnChainTurnWrong)

/-- 'laws.FnChainPut': WHATEVER THE INPUT: true; the input reads as it did. -/
def fnChainPutSpec : ChangeSpec := { name := "fnChainPut", fn := fun _ => fun
  | [d] => { results := [.lit (.bool true)], args := [d] }
  | _ => none }
def fnChainPutRow : OpenClaim := { program := "ytbpdhilhohcinaa", sum := "3a5813c0ef297de8d3591c800b1b0576ea6c37d7c78878b4378ccabd7f17411f", func := "loop.example/tombolo/laws.FnChainPut", spec := "fnChainPut", inPlace := ["slices.overlaps[loop.example/tombolo/impl.Ver]"], unfollowed := true, recurses := true, apart := false }
def FnChainPutSaid : Prop := fnChainPutRow.holds Try.pinned (OpenSpec.ofChange fnChainPutSpec)

/-- ITS FALSE NEIGHBOUR: 'it returns false'. Refute it at one input. -/
def fnChainPutWrong : ChangeSpec := { name := "fnChainPut", fn := fun _ => fun
  | [d] => { results := [.lit (.bool false)], args := [d] }
  | _ => none }
def FnChainPutWrongFalsely : Prop := fnChainPutRow.holds Try.pinned (OpenSpec.ofChange fnChainPutWrong)

/-- 'laws.FnChainGrow': WHATEVER THE INPUT: true; the input reads as it did. -/
def fnChainGrowSpec : ChangeSpec := { name := "fnChainGrow", fn := fun _ => fun
  | [d] => { results := [.lit (.bool true)], args := [d] }
  | _ => none }
def fnChainGrowRow : OpenClaim := { program := "ytbpdhilhohcinaa", sum := "3a5813c0ef297de8d3591c800b1b0576ea6c37d7c78878b4378ccabd7f17411f", func := "loop.example/tombolo/laws.FnChainGrow", spec := "fnChainGrow", inPlace := ["slices.overlaps[loop.example/tombolo/impl.Ver]"], unfollowed := true, recurses := true, apart := false }
def FnChainGrowSaid : Prop := fnChainGrowRow.holds Try.pinned (OpenSpec.ofChange fnChainGrowSpec)

/-- ITS FALSE NEIGHBOUR: 'it returns false'. Refute it at one input. -/
def fnChainGrowWrong : ChangeSpec := { name := "fnChainGrow", fn := fun _ => fun
  | [d] => { results := [.lit (.bool false)], args := [d] }
  | _ => none }
def FnChainGrowWrongFalsely : Prop := fnChainGrowRow.holds Try.pinned (OpenSpec.ofChange fnChainGrowWrong)

/- THE SECOND FORM. 'bulk': how many values and letters a reading holds, each counted each time it is reached (what is shared counts as often as it is met; a slice's spare places count too). A statement '..UptoSaid' is the law's where the arguments, and the package variables that the reading takes, are together of bulk at most 1048576: NARROWER than '..Said'. Prove '..Said' where nothing that the law and all that it calls make is longer than what came in: it says more and counts as full. Else prove '..UptoSaid'. A law counts once. -/
mutual
def uptoBulk {H : Type} : DataW H → Nat
  | .lit (.string bytes) => bytes.length + 1
  | .lit _ => 1
  | .nil => 1
  | .ptr d => uptoBulk d + 1
  | .slice elems spare => uptoBulkAll elems + uptoBulkAll spare + 1
  | .agg parts => uptoBulkAll parts + 1
  | .iface _ d => uptoBulk d + 1
  | .map entries => uptoBulkEntries entries + 1
  | .held _ => 1
def uptoBulkAll {H : Type} : List (DataW H) → Nat
  | [] => 0
  | d :: r => uptoBulk d + uptoBulkAll r
def uptoBulkEntries {H : Type} : List (Lit × DataW H) → Nat
  | [] => 0
  | x :: r => uptoBulkEntry x + uptoBulkEntries r
def uptoBulkEntry {H : Type} : Lit × DataW H → Nat
  | (.string bytes, d) => bytes.length + uptoBulk d + 1
  | (_, d) => uptoBulk d + 1
 end
def uptoSmall : (H : Type) → List (DataW H) → Bool := fun _ ds => decide (uptoBulkAll ds ≤ 1048576)
def OpenSpec.upto (s : _root_.Go.ChangeSpec) : _root_.Go.OpenSpec := { _root_.Go.OpenSpec.ofChange s with cond := some uptoSmall }

/-- 'laws.FnExactCallOk', WHERE WHAT IT READS IS OF BULK AT MOST 1048576: true; the input reads as it did. -/
def fnExactCallOkUptoRow : OpenClaim := { program := "ytbpdhilhohcinaa", sum := "3a5813c0ef297de8d3591c800b1b0576ea6c37d7c78878b4378ccabd7f17411f", func := "loop.example/tombolo/laws.FnExactCallOk", spec := "fnExactCallOk", unfollowed := true, recurses := true, apart := false, narrowed := true }
def FnExactCallOkUptoSaid : Prop := fnExactCallOkUptoRow.holds Try.pinned (OpenSpec.upto fnExactCallOkSpec)

/-- 'laws.FnExactCallSaw', WHERE WHAT IT READS IS OF BULK AT MOST 1048576: true; the input reads as it did. -/
def fnExactCallSawUptoRow : OpenClaim := { program := "ytbpdhilhohcinaa", sum := "3a5813c0ef297de8d3591c800b1b0576ea6c37d7c78878b4378ccabd7f17411f", func := "loop.example/tombolo/laws.FnExactCallSaw", spec := "fnExactCallSaw", unfollowed := true, recurses := true, apart := false, narrowed := true }
def FnExactCallSawUptoSaid : Prop := fnExactCallSawUptoRow.holds Try.pinned (OpenSpec.upto fnExactCallSawSpec)

/-- 'laws.FnWordOk', WHERE WHAT IT READS IS OF BULK AT MOST 1048576: true; the input reads as it did. -/
def fnWordOkUptoRow : OpenClaim := { program := "ytbpdhilhohcinaa", sum := "3a5813c0ef297de8d3591c800b1b0576ea6c37d7c78878b4378ccabd7f17411f", func := "loop.example/tombolo/laws.FnWordOk", spec := "fnWordOk", apart := false, narrowed := true }
def FnWordOkUptoSaid : Prop := fnWordOkUptoRow.holds Try.pinned (OpenSpec.upto fnWordOkSpec)

/-- 'laws.FnChainNone', WHERE WHAT IT READS IS OF BULK AT MOST 1048576: true; the input reads as it did. -/
def fnChainNoneUptoRow : OpenClaim := { program := "ytbpdhilhohcinaa", sum := "3a5813c0ef297de8d3591c800b1b0576ea6c37d7c78878b4378ccabd7f17411f", func := "loop.example/tombolo/laws.FnChainNone", spec := "fnChainNone", unfollowed := true, recurses := true, apart := false, narrowed := true }
def FnChainNoneUptoSaid : Prop := fnChainNoneUptoRow.holds Try.pinned (OpenSpec.upto fnChainNoneSpec)

/-- 'laws.FnChainAt', WHERE WHAT IT READS IS OF BULK AT MOST 1048576: true; the input reads as it did. -/
def fnChainAtUptoRow : OpenClaim := { program := "ytbpdhilhohcinaa", sum := "3a5813c0ef297de8d3591c800b1b0576ea6c37d7c78878b4378ccabd7f17411f", func := "loop.example/tombolo/laws.FnChainAt", spec := "fnChainAt", unfollowed := true, recurses := true, apart := false, narrowed := true }
def FnChainAtUptoSaid : Prop := fnChainAtUptoRow.holds Try.pinned (OpenSpec.upto fnChainAtSpec)

/-- 'laws.FnChainTop', WHERE WHAT IT READS IS OF BULK AT MOST 1048576: true; the input reads as it did. -/
def fnChainTopUptoRow : OpenClaim := { program := "ytbpdhilhohcinaa", sum := "3a5813c0ef297de8d3591c800b1b0576ea6c37d7c78878b4378ccabd7f17411f", func := "loop.example/tombolo/laws.FnChainTop", spec := "fnChainTop", unfollowed := true, recurses := true, apart := false, narrowed := true }
def FnChainTopUptoSaid : Prop := fnChainTopUptoRow.holds Try.pinned (OpenSpec.upto fnChainTopSpec)

/-- 'laws.FnChainSelf', WHERE WHAT IT READS IS OF BULK AT MOST 1048576: true; the input reads as it did. -/
def fnChainSelfUptoRow : OpenClaim := { program := "ytbpdhilhohcinaa", sum := "3a5813c0ef297de8d3591c800b1b0576ea6c37d7c78878b4378ccabd7f17411f", func := "loop.example/tombolo/laws.FnChainSelf", spec := "fnChainSelf", unfollowed := true, recurses := true, apart := false, narrowed := true }
def FnChainSelfUptoSaid : Prop := fnChainSelfUptoRow.holds Try.pinned (OpenSpec.upto fnChainSelfSpec)

/-- 'laws.FnChainParts', WHERE WHAT IT READS IS OF BULK AT MOST 1048576: true; the input reads as it did. -/
def fnChainPartsUptoRow : OpenClaim := { program := "ytbpdhilhohcinaa", sum := "3a5813c0ef297de8d3591c800b1b0576ea6c37d7c78878b4378ccabd7f17411f", func := "loop.example/tombolo/laws.FnChainParts", spec := "fnChainParts", apart := false, narrowed := true }
def FnChainPartsUptoSaid : Prop := fnChainPartsUptoRow.holds Try.pinned (OpenSpec.upto fnChainPartsSpec)

/-- 'laws.FnChainFull', WHERE WHAT IT READS IS OF BULK AT MOST 1048576: true; the input reads as it did. -/
def fnChainFullUptoRow : OpenClaim := { program := "ytbpdhilhohcinaa", sum := "3a5813c0ef297de8d3591c800b1b0576ea6c37d7c78878b4378ccabd7f17411f", func := "loop.example/tombolo/laws.FnChainFull", spec := "fnChainFull", inPlace := ["slices.overlaps[loop.example/tombolo/impl.Ver]"], unfollowed := true, recurses := true, apart := false, narrowed := true }
def FnChainFullUptoSaid : Prop := fnChainFullUptoRow.holds Try.pinned (OpenSpec.upto fnChainFullSpec)

/-- 'laws.FnChainTurn', WHERE WHAT IT READS IS OF BULK AT MOST 1048576: true; the input reads as it did. -/
def fnChainTurnUptoRow : OpenClaim := { program := "ytbpdhilhohcinaa", sum := "3a5813c0ef297de8d3591c800b1b0576ea6c37d7c78878b4378ccabd7f17411f", func := "loop.example/tombolo/laws.FnChainTurn", spec := "fnChainTurn", inPlace := ["slices.overlaps[loop.example/tombolo/impl.Ver]"], unfollowed := true, recurses := true, apart := false, narrowed := true }
def FnChainTurnUptoSaid : Prop := fnChainTurnUptoRow.holds Try.pinned (OpenSpec.upto fnChainTurnSpec)

/-- 'laws.FnChainPut', WHERE WHAT IT READS IS OF BULK AT MOST 1048576: true; the input reads as it did. -/
def fnChainPutUptoRow : OpenClaim := { program := "ytbpdhilhohcinaa", sum := "3a5813c0ef297de8d3591c800b1b0576ea6c37d7c78878b4378ccabd7f17411f", func := "loop.example/tombolo/laws.FnChainPut", spec := "fnChainPut", inPlace := ["slices.overlaps[loop.example/tombolo/impl.Ver]"], unfollowed := true, recurses := true, apart := false, narrowed := true }
def FnChainPutUptoSaid : Prop := fnChainPutUptoRow.holds Try.pinned (OpenSpec.upto fnChainPutSpec)

/-- 'laws.FnChainGrow', WHERE WHAT IT READS IS OF BULK AT MOST 1048576: true; the input reads as it did. -/
def fnChainGrowUptoRow : OpenClaim := { program := "ytbpdhilhohcinaa", sum := "3a5813c0ef297de8d3591c800b1b0576ea6c37d7c78878b4378ccabd7f17411f", func := "loop.example/tombolo/laws.FnChainGrow", spec := "fnChainGrow", inPlace := ["slices.overlaps[loop.example/tombolo/impl.Ver]"], unfollowed := true, recurses := true, apart := false, narrowed := true }
def FnChainGrowUptoSaid : Prop := fnChainGrowUptoRow.holds Try.pinned (OpenSpec.upto fnChainGrowSpec)

end Rows
end Go.Proofs.Ytbpdhilhohcinaa
