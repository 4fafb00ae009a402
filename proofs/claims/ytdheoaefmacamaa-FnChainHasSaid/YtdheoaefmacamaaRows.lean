/-
  No cell of these rows narrows 'for every input' (looked for: loops, veiled, ifaces, maps, wideKeys, modest, calm, conditions, laid).
  DERIVED. THE GIVEN ROWS OF THIS SEAT. 3 by the template 'for every input the law returns true; each argument reads behind the call as it read before'; 0 by the template 'total and deterministic' (their statements: YtdheoaefmacamaaTotals.lean).
  GIVEN WITH THE SEED: the statements are not yours to turn. If you find one false, say at which input.
  Laid BY PROGRAM, IN A SANDBOX (cutbox-rows.mjs): the forced cells as the released guide's own fill.sh prints them over the translation 4ee7ce1dafec16ca… (all of the seat's roots in one cut). By AI agents, Wed Nov 11 2026. No macro, syntax, notation, axiom, sorry.
-/
import Derived.Test.YtdheoaefmacamaaChecked
import GoSem.Claim
import GoSem.ClaimJoined
import GoSem.ClaimMapViews
import Derived.JoinedTies
import Derived.KernelRfl
namespace Go.Proofs.Ytdheoaefmacamaa
/- THE CELL 'sum', in the pinned program and in every row, IS THE sha256 OF THE DUMP (.gsa) THAT YtdheoaefmacamaaProg.lean LOADS. Nothing in Lean hashes anything: it is a label: what it is worth is what the hold of that sum in a sandbox is worth. -/
noncomputable def Try.pinned : Pinned := { name := "ytdheoaefmacamaa", sum := "4ee7ce1dafec16ca26f81baa966f66e87e5caa307a371f627ded8e7df94aa31b", checked := Try.checked }
namespace Rows
def none {H : Type} : Left H := { results := [], args := [] }

/-- 'laws.FnChainSlot': WHATEVER THE INPUT: true; the input reads as it did. -/
def fnChainSlotSpec : ChangeSpec := { name := "fnChainSlot", fn := fun _ => fun
  | [d] => { results := [.lit (.bool true)], args := [d] }
  | _ => none }
def fnChainSlotRow : OpenClaim := { program := "ytdheoaefmacamaa", sum := "4ee7ce1dafec16ca26f81baa966f66e87e5caa307a371f627ded8e7df94aa31b", func := "loop.example/tombolo/laws.FnChainSlot", spec := "fnChainSlot", inPlace := ["slices.overlaps[loop.example/tombolo/impl.Ver]"], unfollowed := true, recurses := true, apart := false }
def FnChainSlotSaid : Prop := fnChainSlotRow.holds Try.pinned (OpenSpec.ofChange fnChainSlotSpec)

/-- ITS FALSE NEIGHBOUR: 'it returns false'. Refute it at one input. -/
def fnChainSlotWrong : ChangeSpec := { name := "fnChainSlot", fn := fun _ => fun
  | [d] => { results := [.lit (.bool false)], args := [d] }
  | _ => none }
def FnChainSlotWrongFalsely : Prop := fnChainSlotRow.holds Try.pinned (OpenSpec.ofChange fnChainSlotWrong)

/-- 'laws.FnChainHas': WHATEVER THE INPUT: true; the input reads as it did. -/
def fnChainHasSpec : ChangeSpec := { name := "fnChainHas", fn := fun _ => fun
  | [d1, d2] => { results := [.lit (.bool true)], args := [d1, d2] }
  | _ => none }
def fnChainHasRow : OpenClaim := { program := "ytdheoaefmacamaa", sum := "4ee7ce1dafec16ca26f81baa966f66e87e5caa307a371f627ded8e7df94aa31b", func := "loop.example/tombolo/laws.FnChainHas", spec := "fnChainHas", inPlace := ["slices.overlaps[loop.example/tombolo/impl.Ver]"], unfollowed := true, recurses := true, apart := false }
def FnChainHasSaid : Prop := fnChainHasRow.holds Try.pinned (OpenSpec.ofChange fnChainHasSpec)

/-- ITS FALSE NEIGHBOUR: 'it returns false'. Refute it at one input. -/
def fnChainHasWrong : ChangeSpec := { name := "fnChainHas", fn := fun _ => fun
  | [d1, d2] => { results := [.lit (.bool false)], args := [d1, d2] }
  | _ => none }
def FnChainHasWrongFalsely : Prop := fnChainHasRow.holds Try.pinned (OpenSpec.ofChange fnChainHasWrong)

/-- 'laws.FnVerOk': WHATEVER THE INPUT: true; the input reads as it did. -/
def fnVerOkSpec : ChangeSpec := { name := "fnVerOk", fn := fun _ => fun
  | [d] => { results := [.lit (.bool true)], args := [d] }
  | _ => none }
def fnVerOkRow : OpenClaim := { program := "ytdheoaefmacamaa", sum := "4ee7ce1dafec16ca26f81baa966f66e87e5caa307a371f627ded8e7df94aa31b", func := "loop.example/tombolo/laws.FnVerOk", spec := "fnVerOk", apart := false }
def FnVerOkSaid : Prop := fnVerOkRow.holds Try.pinned (OpenSpec.ofChange fnVerOkSpec)

/-- ITS FALSE NEIGHBOUR: 'it returns false'. Refute it at one input. -/
def fnVerOkWrong : ChangeSpec := { name := "fnVerOk", fn := fun _ => fun
  | [d] => { results := [.lit (.bool false)], args := [d] }
  | _ => none }
def FnVerOkWrongFalsely : Prop := fnVerOkRow.holds Try.pinned (OpenSpec.ofChange fnVerOkWrong)

/- THE SECOND FORM. 'bulk': how many values and letters a reading holds, each counted each time it is reached (what is shared counts as often as it is met; a slice's spare places count too). A statement '..UptoSaid' is the law's where the arguments, and the package variables that the reading takes, are together of bulk at most 1048576: NARROWER than '..Said'. Prove '..Said' where nothing that the law and all that it calls make is longer than what came in: it says more and counts as full. Else prove '..UptoSaid'. A law counts once. -/
mutual
def uptoBulk {H : Type} : DataW H → Nat
  | .lit (.string bytes) => bytes.length + 1
  | .lit _ => 1
  | .nil => 1
  | .ptr d => uptoBulk d + 1
  | .slice elems spare => uptoBulkAll elems + uptoBulkAll spare + 1
  | .agg parts => uptoBulkAll parts + 1
  | .iface _ d => uptoBulk d + 1
  | .map entries => uptoBulkEntries entries + 1
  | .held _ => 1
def uptoBulkAll {H : Type} : List (DataW H) → Nat
  | [] => 0
  | d :: r => uptoBulk d + uptoBulkAll r
def uptoBulkEntries {H : Type} : List (Lit × DataW H) → Nat
  | [] => 0
  | x :: r => uptoBulkEntry x + uptoBulkEntries r
def uptoBulkEntry {H : Type} : Lit × DataW H → Nat
  | (.string bytes, d) => bytes.length + uptoBulk d + 1
  | (_, d) => uptoBulk d + 1
 end
def uptoSmall : (H : Type) → List (DataW H) → Bool := fun _ ds => decide (uptoBulkAll ds ≤ 1048576)
def OpenSpec.upto (s : _root_.Go.ChangeSpec) : _root_.Go.OpenSpec := { _root_.Go.OpenSpec.ofChange s with cond := some uptoSmall }

/-- 'laws.FnChainSlot', WHERE WHAT IT READS IS OF BULK AT MOST 1048576: true; the input reads as it did. -/
def fnChainSlotUptoRow : OpenClaim := { program := "ytdheoaefmacamaa", sum := "4ee7ce1dafec16ca26f81baa966f66e87e5caa307a371f627ded8e7df94aa31b", func := "loop.example/tombolo/laws.FnChainSlot", spec := "fnChainSlot", inPlace := ["slices.overlaps[loop.example/tombolo/impl.Ver]"], unfollowed := true, recurses := true, apart := false, narrowed := true }
def FnChainSlotUptoSaid : Prop := fnChainSlotUptoRow.holds Try.pinned (OpenSpec.upto fnChainSlotSpec)

/-- 'laws.FnChainHas', WHERE WHAT IT READS IS OF BULK AT MOST 1048576: true; the input reads as it did. -/
def fnChainHasUptoRow : OpenClaim := { program := "ytdheoaefmacamaa", sum := "4ee7ce1dafec16ca26f81baa966f66e87e5caa307a371f627ded8e7df94aa31b", func := "loop.example/tombolo/laws.FnChainHas", spec := "fnChainHas", inPlace := ["slices.overlaps[loop.example/tombolo/impl.Ver]"], unfollowed := true, recurses := true, apart := false, narrowed := true }
def FnChainHasUptoSaid : Prop := fnChainHasUptoRow.holds Try.pinned (OpenSpec.upto fnChainHasSpec)

/-- 'laws.FnVerOk', WHERE WHAT IT READS IS OF BULK AT MOST 1048576: true; the input reads as it did. -/
def fnVerOkUptoRow : OpenClaim := { program := "ytdheoaefmacamaa", sum := "4ee7ce1dafec16ca26f81baa966f66e87e5caa307a371f627ded8e7df94aa31b", func := "loop.example/tombolo/laws.FnVerOk", spec := "fnVerOk", apart := false, narrowed := true }
def FnVerOkUptoSaid : Prop := fnVerOkUptoRow.holds Try.pinned (OpenSpec.upto fnVerOkSpec)

end Rows
end Go.Proofs.Ytdheoaefmacamaa
