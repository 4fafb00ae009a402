/-
  No cell of these rows narrows 'for every input' (looked for: loops, veiled, ifaces, maps, wideKeys, modest, calm, conditions, laid).
  DERIVED. THE GIVEN ROWS OF THIS SEAT. 12 by the template 'for every input the law returns true; each argument reads behind the call as it read before'; 0 by the template 'total and deterministic' (their statements: YtiigdbmfpibbdaaTotals.lean).
  GIVEN WITH THE SEED: the statements are not yours to turn. If you find one false, say at which input.
  Laid BY PROGRAM, IN A SANDBOX (cutbox-rows.mjs): the forced cells as the released guide's own fill.sh prints them over the translation b6c1996b6a5753be… (all of the seat's roots in one cut). By AI agents, Wed Nov 11 2026. No macro, syntax, notation, axiom, sorry.
-/
import Derived.Test.YtiigdbmfpibbdaaChecked
import GoSem.Claim
import GoSem.ClaimJoined
import GoSem.ClaimMapViews
import Derived.JoinedTies
import Derived.KernelRfl
namespace Go.Proofs.Ytiigdbmfpibbdaa
/- THE CELL 'sum', in the pinned program and in every row, IS THE sha256 OF THE DUMP (.gsa) THAT YtiigdbmfpibbdaaProg.lean LOADS. Nothing in Lean hashes anything: it is a label: what it is worth is what the hold of that sum in a sandbox is worth. -/
noncomputable def Try.pinned : Pinned := { name := "ytiigdbmfpibbdaa", sum := "b6c1996b6a5753befa78caa43571ed77aebb3039bc58d59a65687f38badbb943", checked := Try.checked }
namespace Rows
def none {H : Type} : Left H := { results := [], args := [] }

/-- 'laws.FnDepsMore': WHATEVER THE INPUT: true; the input reads as it did. -/
def fnDepsMoreSpec : ChangeSpec := { name := "fnDepsMore", fn := fun _ => fun
  | [d] => { results := [.lit (.bool true)], args := [d] }
  | _ => none }
def fnDepsMoreRow : OpenClaim := { program := "ytiigdbmfpibbdaa", sum := "b6c1996b6a5753befa78caa43571ed77aebb3039bc58d59a65687f38badbb943", func := "loop.example/tombolo/laws.FnDepsMore", spec := "fnDepsMore", apart := false }
def FnDepsMoreSaid : Prop := fnDepsMoreRow.holds Try.pinned (OpenSpec.ofChange fnDepsMoreSpec)

/-- ITS FALSE NEIGHBOUR: 'it returns false'. Refute it at one input. -/
def fnDepsMoreWrong : ChangeSpec := { name := "fnDepsMore", fn := fun _ => fun
  | [d] => { results := [.lit (.bool false)], args := [d] }
  | _ => none }
def FnDepsMoreWrongFalsely : Prop := fnDepsMoreRow.holds Try.pinned (OpenSpec.ofChange fnDepsMoreWrong)

/-- 'laws.FnExactDepsJoin': WHATEVER THE INPUT: true; the input reads as it did. -/
def fnExactDepsJoinSpec : ChangeSpec := { name := "fnExactDepsJoin", fn := fun _ => fun
  | [d1, d2] => { results := [.lit (.bool true)], args := [d1, d2] }
  | _ => none }
def fnExactDepsJoinRow : OpenClaim := { program := "ytiigdbmfpibbdaa", sum := "b6c1996b6a5753befa78caa43571ed77aebb3039bc58d59a65687f38badbb943", func := "loop.example/tombolo/laws.FnExactDepsJoin", spec := "fnExactDepsJoin", apart := false }
def FnExactDepsJoinSaid : Prop := fnExactDepsJoinRow.holds Try.pinned (OpenSpec.ofChange fnExactDepsJoinSpec)

/-- ITS FALSE NEIGHBOUR: 'it returns false'. Refute it at one input. -/
def fnExactDepsJoinWrong : ChangeSpec := { name := "fnExactDepsJoin", fn := fun _ => fun
  | [d1, d2] => { results := [.lit (.bool false)], args := [d1, d2] }
  | _ => none }
def FnExactDepsJoinWrongFalsely : Prop := fnExactDepsJoinRow.holds Try.pinned (OpenSpec.ofChange fnExactDepsJoinWrong)

/-- 'laws.FnServerStart': WHATEVER THE INPUT: true; the input reads as it did. -/
def fnServerStartSpec : ChangeSpec := { name := "fnServerStart", fn := fun _ => fun
  | [d] => { results := [.lit (.bool true)], args := [d] }
  | _ => none }
def fnServerStartRow : OpenClaim := { program := "ytiigdbmfpibbdaa", sum := "b6c1996b6a5753befa78caa43571ed77aebb3039bc58d59a65687f38badbb943", func := "loop.example/tombolo/laws.FnServerStart", spec := "fnServerStart", unfollowed := true, recurses := true, apart := false }
def FnServerStartSaid : Prop := fnServerStartRow.holds Try.pinned (OpenSpec.ofChange fnServerStartSpec)

/-- ITS FALSE NEIGHBOUR: 'it returns false'. Refute it at one input. -/
def fnServerStartWrong : ChangeSpec := { name := "fnServerStart", fn := fun _ => fun
  | [d] => { results := [.lit (.bool false)], args := [d] }
  | _ => none }
def FnServerStartWrongFalsely : Prop := fnServerStartRow.holds Try.pinned (OpenSpec.ofChange fnServerStartWrong)

/-- 'laws.FnExactServerStart': WHATEVER THE INPUT: true; the input reads as it did. -/
def fnExactServerStartSpec : ChangeSpec := { name := "fnExactServerStart", fn := fun _ => fun
  | [d] => { results := [.lit (.bool true)], args := [d] }
  | _ => none }
def fnExactServerStartRow : OpenClaim := { program := "ytiigdbmfpibbdaa", sum := "b6c1996b6a5753befa78caa43571ed77aebb3039bc58d59a65687f38badbb943", func := "loop.example/tombolo/laws.FnExactServerStart", spec := "fnExactServerStart", apart := false }
def FnExactServerStartSaid : Prop := fnExactServerStartRow.holds Try.pinned (OpenSpec.ofChange fnExactServerStartSpec)

/-- ITS FALSE NEIGHBOUR: 'it returns false'. Refute it at one input. -/
def fnExactServerStartWrong : ChangeSpec := { name := "fnExactServerStart", fn := fun _ => fun
  | [d] => { results := [.lit (.bool false)], args := [d] }
  | _ => none }
def FnExactServerStartWrongFalsely : Prop := fnExactServerStartRow.holds Try.pinned (OpenSpec.ofChange fnExactServerStartWrong)

/-- 'laws.FnExactChainOk': WHATEVER THE INPUT: true; the input reads as it did. -/
def fnExactChainOkSpec : ChangeSpec := { name := "fnExactChainOk", fn := fun _ => fun
  | [d] => { results := [.lit (.bool true)], args := [d] }
  | _ => none }
def fnExactChainOkRow : OpenClaim := { program := "ytiigdbmfpibbdaa", sum := "b6c1996b6a5753befa78caa43571ed77aebb3039bc58d59a65687f38badbb943", func := "loop.example/tombolo/laws.FnExactChainOk", spec := "fnExactChainOk", apart := false }
def FnExactChainOkSaid : Prop := fnExactChainOkRow.holds Try.pinned (OpenSpec.ofChange fnExactChainOkSpec)

/-- ITS FALSE NEIGHBOUR: 'it returns false'. Refute it at one input. -/
def fnExactChainOkWrong : ChangeSpec := { name := "fnExactChainOk", fn := fun _ => fun
  | [d] => { results := [.lit (.bool false)], args := [d] }
  | _ => none }
def FnExactChainOkWrongFalsely : Prop := fnExactChainOkRow.holds Try.pinned (OpenSpec.ofChange fnExactChainOkWrong)

/-- 'laws.FnExactChainHas': WHATEVER THE INPUT: true; the input reads as it did. -/
def fnExactChainHasSpec : ChangeSpec := { name := "fnExactChainHas", fn := fun _ => fun
  | [d1, d2] => { results := [.lit (.bool true)], args := [d1, d2] }
  | _ => none }
def fnExactChainHasRow : OpenClaim := { program := "ytiigdbmfpibbdaa", sum := "b6c1996b6a5753befa78caa43571ed77aebb3039bc58d59a65687f38badbb943", func := "loop.example/tombolo/laws.FnExactChainHas", spec := "fnExactChainHas", unfollowed := true, recurses := true, apart := false }
def FnExactChainHasSaid : Prop := fnExactChainHasRow.holds Try.pinned (OpenSpec.ofChange fnExactChainHasSpec)

/-- ITS FALSE NEIGHBOUR: 'it returns false'. Refute it at one input. -/
def fnExactChainHasWrong : ChangeSpec := { name := "fnExactChainHas", fn := fun _ => fun
  | [d1, d2] => { results := [.lit (.bool false)], args := [d1, d2] }
  | _ => none }
def FnExactChainHasWrongFalsely : Prop := fnExactChainHasRow.holds Try.pinned (OpenSpec.ofChange fnExactChainHasWrong)

/-- 'laws.FnExactChainAt': WHATEVER THE INPUT: true; the input reads as it did. -/
def fnExactChainAtSpec : ChangeSpec := { name := "fnExactChainAt", fn := fun _ => fun
  | [d1, d2, d3] => { results := [.lit (.bool true)], args := [d1, d2, d3] }
  | _ => none }
def fnExactChainAtRow : OpenClaim := { program := "ytiigdbmfpibbdaa", sum := "b6c1996b6a5753befa78caa43571ed77aebb3039bc58d59a65687f38badbb943", func := "loop.example/tombolo/laws.FnExactChainAt", spec := "fnExactChainAt", unfollowed := true, recurses := true, apart := false }
def FnExactChainAtSaid : Prop := fnExactChainAtRow.holds Try.pinned (OpenSpec.ofChange fnExactChainAtSpec)

/-- ITS FALSE NEIGHBOUR: 'it returns false'. Refute it at one input. -/
def fnExactChainAtWrong : ChangeSpec := { name := "fnExactChainAt", fn := fun _ => fun
  | [d1, d2, d3] => { results := [.lit (.bool false)], args := [d1, d2, d3] }
  | _ => none }
def FnExactChainAtWrongFalsely : Prop := fnExactChainAtRow.holds Try.pinned (OpenSpec.ofChange fnExactChainAtWrong)

/-- 'laws.FnExactChainTop': WHATEVER THE INPUT: true; the input reads as it did. -/
def fnExactChainTopSpec : ChangeSpec := { name := "fnExactChainTop", fn := fun _ => fun
  | [d1, d2] => { results := [.lit (.bool true)], args := [d1, d2] }
  | _ => none }
def fnExactChainTopRow : OpenClaim := { program := "ytiigdbmfpibbdaa", sum := "b6c1996b6a5753befa78caa43571ed77aebb3039bc58d59a65687f38badbb943", func := "loop.example/tombolo/laws.FnExactChainTop", spec := "fnExactChainTop", unfollowed := true, recurses := true, apart := false }
def FnExactChainTopSaid : Prop := fnExactChainTopRow.holds Try.pinned (OpenSpec.ofChange fnExactChainTopSpec)

/-- ITS FALSE NEIGHBOUR: 'it returns false'. Refute it at one input. -/
def fnExactChainTopWrong : ChangeSpec := { name := "fnExactChainTop", fn := fun _ => fun
  | [d1, d2] => { results := [.lit (.bool false)], args := [d1, d2] }
  | _ => none }
def FnExactChainTopWrongFalsely : Prop := fnExactChainTopRow.holds Try.pinned (OpenSpec.ofChange fnExactChainTopWrong)

/-- 'laws.FnExactChainSlot': WHATEVER THE INPUT: true; the input reads as it did. -/
def fnExactChainSlotSpec : ChangeSpec := { name := "fnExactChainSlot", fn := fun _ => fun
  | [d1, d2] => { results := [.lit (.bool true)], args := [d1, d2] }
  | _ => none }
def fnExactChainSlotRow : OpenClaim := { program := "ytiigdbmfpibbdaa", sum := "b6c1996b6a5753befa78caa43571ed77aebb3039bc58d59a65687f38badbb943", func := "loop.example/tombolo/laws.FnExactChainSlot", spec := "fnExactChainSlot", apart := false }
def FnExactChainSlotSaid : Prop := fnExactChainSlotRow.holds Try.pinned (OpenSpec.ofChange fnExactChainSlotSpec)

/-- ITS FALSE NEIGHBOUR: 'it returns false'. Refute it at one input. -/
def fnExactChainSlotWrong : ChangeSpec := { name := "fnExactChainSlot", fn := fun _ => fun
  | [d1, d2] => { results := [.lit (.bool false)], args := [d1, d2] }
  | _ => none }
def FnExactChainSlotWrongFalsely : Prop := fnExactChainSlotRow.holds Try.pinned (OpenSpec.ofChange fnExactChainSlotWrong)

/-- 'laws.FnExactWordOk': WHATEVER THE INPUT: true; the input reads as it did. -/
def fnExactWordOkSpec : ChangeSpec := { name := "fnExactWordOk", fn := fun _ => fun
  | [d] => { results := [.lit (.bool true)], args := [d] }
  | _ => none }
def fnExactWordOkRow : OpenClaim := { program := "ytiigdbmfpibbdaa", sum := "b6c1996b6a5753befa78caa43571ed77aebb3039bc58d59a65687f38badbb943", func := "loop.example/tombolo/laws.FnExactWordOk", spec := "fnExactWordOk", apart := false }
def FnExactWordOkSaid : Prop := fnExactWordOkRow.holds Try.pinned (OpenSpec.ofChange fnExactWordOkSpec)

/-- ITS FALSE NEIGHBOUR: 'it returns false'. Refute it at one input. -/
def fnExactWordOkWrong : ChangeSpec := { name := "fnExactWordOk", fn := fun _ => fun
  | [d] => { results := [.lit (.bool false)], args := [d] }
  | _ => none }
def FnExactWordOkWrongFalsely : Prop := fnExactWordOkRow.holds Try.pinned (OpenSpec.ofChange fnExactWordOkWrong)

/-- 'laws.FnExactServerOk': WHATEVER THE INPUT: true; the input reads as it did. -/
def fnExactServerOkSpec : ChangeSpec := { name := "fnExactServerOk", fn := fun _ => fun
  | [d] => { results := [.lit (.bool true)], args := [d] }
  | _ => none }
def fnExactServerOkRow : OpenClaim := { program := "ytiigdbmfpibbdaa", sum := "b6c1996b6a5753befa78caa43571ed77aebb3039bc58d59a65687f38badbb943", func := "loop.example/tombolo/laws.FnExactServerOk", spec := "fnExactServerOk", unfollowed := true, recurses := true, apart := false }
def FnExactServerOkSaid : Prop := fnExactServerOkRow.holds Try.pinned (OpenSpec.ofChange fnExactServerOkSpec)

/-- ITS FALSE NEIGHBOUR: 'it returns false'. Refute it at one input. -/
def fnExactServerOkWrong : ChangeSpec := { name := "fnExactServerOk", fn := fun _ => fun
  | [d] => { results := [.lit (.bool false)], args := [d] }
  | _ => none }
def FnExactServerOkWrongFalsely : Prop := fnExactServerOkRow.holds Try.pinned (OpenSpec.ofChange fnExactServerOkWrong)

/-- 'laws.FnExactServerOwns': WHATEVER THE INPUT: true; the input reads as it did. -/
def fnExactServerOwnsSpec : ChangeSpec := { name := "fnExactServerOwns", fn := fun _ => fun
  | [d1, d2] => { results := [.lit (.bool true)], args := [d1, d2] }
  | _ => none }
def fnExactServerOwnsRow : OpenClaim := { program := "ytiigdbmfpibbdaa", sum := "b6c1996b6a5753befa78caa43571ed77aebb3039bc58d59a65687f38badbb943", func := "loop.example/tombolo/laws.FnExactServerOwns", spec := "fnExactServerOwns", unfollowed := true, recurses := true, apart := false }
def FnExactServerOwnsSaid : Prop := fnExactServerOwnsRow.holds Try.pinned (OpenSpec.ofChange fnExactServerOwnsSpec)

/-- ITS FALSE NEIGHBOUR: 'it returns false'. Refute it at one input. -/
def fnExactServerOwnsWrong : ChangeSpec := { name := "fnExactServerOwns", fn := fun _ => fun
  | [d1, d2] => { results := [.lit (.bool false)], args := [d1, d2] }
  | _ => none }
def FnExactServerOwnsWrongFalsely : Prop := fnExactServerOwnsRow.holds Try.pinned (OpenSpec.ofChange fnExactServerOwnsWrong)

/- THE SECOND FORM. 'bulk': how many values and letters a reading holds, each counted each time it is reached (what is shared counts as often as it is met; a slice's spare places count too). A statement '..UptoSaid' is the law's where the arguments, and the package variables that the reading takes, are together of bulk at most 1048576: NARROWER than '..Said'. Prove '..Said' where nothing that the law and all that it calls make is longer than what came in: it says more and counts as full. Else prove '..UptoSaid'. A law counts once. -/
mutual
def uptoBulk {H : Type} : DataW H → Nat
  | .lit (.string bytes) => bytes.length + 1
  | .lit _ => 1
  | .nil => 1
  | .ptr d => uptoBulk d + 1
  | .slice elems spare => uptoBulkAll elems + uptoBulkAll spare + 1
  | .agg parts => uptoBulkAll parts + 1
  | .iface _ d => uptoBulk d + 1
  | .map entries => uptoBulkEntries entries + 1
  | .held _ => 1
def uptoBulkAll {H : Type} : List (DataW H) → Nat
  | [] => 0
  | d :: r => uptoBulk d + uptoBulkAll r
def uptoBulkEntries {H : Type} : List (Lit × DataW H) → Nat
  | [] => 0
  | x :: r => uptoBulkEntry x + uptoBulkEntries r
def uptoBulkEntry {H : Type} : Lit × DataW H → Nat
  | (.string bytes, d) => bytes.length + uptoBulk d + 1
  | (_, d) => uptoBulk d + 1
 end
def uptoSmall : (H : Type) → List (DataW H) → Bool := fun _ ds => decide (uptoBulkAll ds ≤ 1048576)
def OpenSpec.upto (s : _root_.Go.ChangeSpec) : _root_.Go.OpenSpec := { _root_.Go.OpenSpec.ofChange s with cond := some uptoSmall }

/-- 'laws.FnDepsMore', WHERE WHAT IT READS IS OF BULK AT MOST 1048576: true; the input reads as it did. -/
def fnDepsMoreUptoRow : OpenClaim := { program := "ytiigdbmfpibbdaa", sum := "b6c1996b6a5753befa78caa43571ed77aebb3039bc58d59a65687f38badbb943", func := "loop.example/tombolo/laws.FnDepsMore", spec := "fnDepsMore", apart := false, narrowed := true }
def FnDepsMoreUptoSaid : Prop := fnDepsMoreUptoRow.holds Try.pinned (OpenSpec.upto fnDepsMoreSpec)

/-- 'laws.FnExactDepsJoin', WHERE WHAT IT READS IS OF BULK AT MOST 1048576: true; the input reads as it did. -/
def fnExactDepsJoinUptoRow : OpenClaim := { program := "ytiigdbmfpibbdaa", sum := "b6c1996b6a5753befa78caa43571ed77aebb3039bc58d59a65687f38badbb943", func := "loop.example/tombolo/laws.FnExactDepsJoin", spec := "fnExactDepsJoin", apart := false, narrowed := true }
def FnExactDepsJoinUptoSaid : Prop := fnExactDepsJoinUptoRow.holds Try.pinned (OpenSpec.upto fnExactDepsJoinSpec)

/-- 'laws.FnServerStart', WHERE WHAT IT READS IS OF BULK AT MOST 1048576: true; the input reads as it did. -/
def fnServerStartUptoRow : OpenClaim := { program := "ytiigdbmfpibbdaa", sum := "b6c1996b6a5753befa78caa43571ed77aebb3039bc58d59a65687f38badbb943", func := "loop.example/tombolo/laws.FnServerStart", spec := "fnServerStart", unfollowed := true, recurses := true, apart := false, narrowed := true }
def FnServerStartUptoSaid : Prop := fnServerStartUptoRow.holds Try.pinned (OpenSpec.upto fnServerStartSpec)

/-- 'laws.FnExactServerStart', WHERE WHAT IT READS IS OF BULK AT MOST 1048576: true; the input reads as it did. -/
def fnExactServerStartUptoRow : OpenClaim := { program := "ytiigdbmfpibbdaa", sum := "b6c1996b6a5753befa78caa43571ed77aebb3039bc58d59a65687f38badbb943", func := "loop.example/tombolo/laws.FnExactServerStart", spec := "fnExactServerStart", apart := false, narrowed := true }
def FnExactServerStartUptoSaid : Prop := fnExactServerStartUptoRow.holds Try.pinned (OpenSpec.upto fnExactServerStartSpec)

/-- 'laws.FnExactChainOk', WHERE WHAT IT READS IS OF BULK AT MOST 1048576: true; the input reads as it did. -/
def fnExactChainOkUptoRow : OpenClaim := { program := "ytiigdbmfpibbdaa", sum := "b6c1996b6a5753befa78caa43571ed77aebb3039bc58d59a65687f38badbb943", func := "loop.example/tombolo/laws.FnExactChainOk", spec := "fnExactChainOk", apart := false, narrowed := true }
def FnExactChainOkUptoSaid : Prop := fnExactChainOkUptoRow.holds Try.pinned (OpenSpec.upto fnExactChainOkSpec)

/-- 'laws.FnExactChainHas', WHERE WHAT IT READS IS OF BULK AT MOST 1048576: true; the input reads as it did. -/
def fnExactChainHasUptoRow : OpenClaim := { program := "ytiigdbmfpibbdaa", sum := "b6c1996b6a5753befa78caa43571ed77aebb3039bc58d59a65687f38badbb943", func := "loop.example/tombolo/laws.FnExactChainHas", spec := "fnExactChainHas", unfollowed := true, recurses := true, apart := false, narrowed := true }
def FnExactChainHasUptoSaid : Prop := fnExactChainHasUptoRow.holds Try.pinned (OpenSpec.upto fnExactChainHasSpec)

/-- 'laws.FnExactChainAt', WHERE WHAT IT READS IS OF BULK AT MOST 1048576: true; the input reads as it did. -/
def fnExactChainAtUptoRow : OpenClaim := { program := "ytiigdbmfpibbdaa", sum := "b6c1996b6a5753befa78caa43571ed77aebb3039bc58d59a65687f38badbb943", func := "loop.example/tombolo/laws.FnExactChainAt", spec := "fnExactChainAt", unfollowed := true, recurses := true, apart := false, narrowed := true }
def FnExactChainAtUptoSaid : Prop := fnExactChainAtUptoRow.holds Try.pinned (OpenSpec.upto fnExactChainAtSpec)

/-- 'laws.FnExactChainTop', WHERE WHAT IT READS IS OF BULK AT MOST 1048576: true; the input reads as it did. -/
def fnExactChainTopUptoRow : OpenClaim := { program := "ytiigdbmfpibbdaa", sum := "b6c1996b6a5753befa78caa43571ed77aebb3039bc58d59a65687f38badbb943", func := "loop.example/tombolo/laws.FnExactChainTop", spec := "fnExactChainTop", unfollowed := true, recurses := true, apart := false, narrowed := true }
def FnExactChainTopUptoSaid : Prop := fnExactChainTopUptoRow.holds Try.pinned (OpenSpec.upto fnExactChainTopSpec)

/-- 'laws.FnExactChainSlot', WHERE WHAT IT READS IS OF BULK AT MOST 1048576: true; the input reads as it did. -/
def fnExactChainSlotUptoRow : OpenClaim := { program := "ytiigdbmfpibbdaa", sum := "b6c1996b6a5753befa78caa43571ed77aebb3039bc58d59a65687f38badbb943", func := "loop.example/tombolo/laws.FnExactChainSlot", spec := "fnExactChainSlot", apart := false, narrowed := true }
def FnExactChainSlotUptoSaid : Prop := fnExactChainSlotUptoRow.holds Try.pinned (OpenSpec.upto fnExactChainSlotSpec)

/-- 'laws.FnExactWordOk', WHERE WHAT IT READS IS OF BULK AT MOST 1048576: true; the input reads as it did. -/
def fnExactWordOkUptoRow : OpenClaim := { program := "ytiigdbmfpibbdaa", sum := "b6c1996b6a5753befa78caa43571ed77aebb3039bc58d59a65687f38badbb943", func := "loop.example/tombolo/laws.FnExactWordOk", spec := "fnExactWordOk", apart := false, narrowed := true }
def FnExactWordOkUptoSaid : Prop := fnExactWordOkUptoRow.holds Try.pinned (OpenSpec.upto fnExactWordOkSpec)

/-- 'laws.FnExactServerOk', WHERE WHAT IT READS IS OF BULK AT MOST 1048576: true; the input reads as it did. -/
def fnExactServerOkUptoRow : OpenClaim := { program := "ytiigdbmfpibbdaa", sum := "b6c1996b6a5753befa78caa43571ed77aebb3039bc58d59a65687f38badbb943", func := "loop.example/tombolo/laws.FnExactServerOk", spec := "fnExactServerOk", unfollowed := true, recurses := true, apart := false, narrowed := true }
def FnExactServerOkUptoSaid : Prop := fnExactServerOkUptoRow.holds Try.pinned (OpenSpec.upto fnExactServerOkSpec)

/-- 'laws.FnExactServerOwns', WHERE WHAT IT READS IS OF BULK AT MOST 1048576: true; the input reads as it did. -/
def fnExactServerOwnsUptoRow : OpenClaim := { program := "ytiigdbmfpibbdaa", sum := "b6c1996b6a5753befa78caa43571ed77aebb3039bc58d59a65687f38badbb943", func := "loop.example/tombolo/laws.FnExactServerOwns", spec := "fnExactServerOwns", unfollowed := true, recurses := true, apart := false, narrowed := true }
def FnExactServerOwnsUptoSaid : Prop := fnExactServerOwnsUptoRow.holds Try.pinned (OpenSpec.upto fnExactServerOwnsSpec)

end Rows
end Go.Proofs.Ytiigdbmfpibbdaa
