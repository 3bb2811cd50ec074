/-
  No cell of these rows narrows 'for every input' (looked for: loops, veiled, ifaces, maps, wideKeys, modest, calm, conditions, laid).
  DERIVED. THE GIVEN ROWS OF THIS SEAT. 8 by the template 'for every input the law returns true; each argument reads behind the call as it read before'; 0 by the template 'total and deterministic' (their statements: YtinjdimejijabaaTotals.lean).
  GIVEN WITH THE SEED: the statements are not yours to turn. If you find one false, say at which input.
  Laid BY PROGRAM, IN A SANDBOX (cutbox-rows.mjs): the forced cells as the released guide's own fill.sh prints them over the translation 04afb4c2dc521793… (all of the seat's roots in one cut). By AI agents, Wed Nov 11 2026. No macro, syntax, notation, axiom, sorry.
-/
import Derived.Test.YtinjdimejijabaaChecked
import GoSem.Claim
import GoSem.ClaimJoined
import GoSem.ClaimMapViews
import Derived.JoinedTies
import Derived.KernelRfl
namespace Go.Proofs.Ytinjdimejijabaa
/- THE CELL 'sum', in the pinned program and in every row, IS THE sha256 OF THE DUMP (.gsa) THAT YtinjdimejijabaaProg.lean LOADS. Nothing in Lean hashes anything: it is a label: what it is worth is what the hold of that sum in a sandbox is worth. -/
noncomputable def Try.pinned : Pinned := { name := "ytinjdimejijabaa", sum := "04afb4c2dc52179370a0f8ad3c751ef078a676df8708976afa41f454cfec5784", checked := Try.checked }
namespace Rows
def none {H : Type} : Left H := { results := [], args := [] }

/-- 'bastionlaw05.PlanTree': WHATEVER THE INPUT: true; the input reads as it did. -/
def planTreeSpec : ChangeSpec := { name := "planTree", fn := fun _ => fun
  | [d] => { results := [.lit (.bool true)], args := [d] }
  | _ => none }
def planTreeRow : OpenClaim := { program := "ytinjdimejijabaa", sum := "04afb4c2dc52179370a0f8ad3c751ef078a676df8708976afa41f454cfec5784", func := "bastion/bastionlaw05.PlanTree", spec := "planTree", apart := false }
def PlanTreeSaid : Prop := planTreeRow.holds Try.pinned (OpenSpec.ofChange planTreeSpec)

/-- ITS FALSE NEIGHBOUR: 'it returns false'. Refute it at one input. -/
def planTreeWrong : ChangeSpec := { name := "planTree", fn := fun _ => fun
  | [d] => { results := [.lit (.bool false)], args := [d] }
  | _ => none }
def PlanTreeWrongFalsely : Prop := planTreeRow.holds Try.pinned (OpenSpec.ofChange planTreeWrong)

/-- 'bastionlaw11.WaysHolds': WHATEVER THE INPUT: true; the input reads as it did. -/
def waysHoldsSpec : ChangeSpec := { name := "waysHolds", fn := fun _ => fun
  | [d1, d2, d3, d4] => { results := [.lit (.bool true)], args := [d1, d2, d3, d4] }
  | _ => none }
def waysHoldsRow : OpenClaim := { program := "ytinjdimejijabaa", sum := "04afb4c2dc52179370a0f8ad3c751ef078a676df8708976afa41f454cfec5784", func := "bastion/bastionlaw11.WaysHolds", spec := "waysHolds", unfollowed := true, recurses := true, apart := false }
def WaysHoldsSaid : Prop := waysHoldsRow.holds Try.pinned (OpenSpec.ofChange waysHoldsSpec)

/-- ITS FALSE NEIGHBOUR: 'it returns false'. Refute it at one input. -/
def waysHoldsWrong : ChangeSpec := { name := "waysHolds", fn := fun _ => fun
  | [d1, d2, d3, d4] => { results := [.lit (.bool false)], args := [d1, d2, d3, d4] }
  | _ => none }
def WaysHoldsWrongFalsely : Prop := waysHoldsRow.holds Try.pinned (OpenSpec.ofChange waysHoldsWrong)

/-- 'bastionlaw11.WaysApart': WHATEVER THE INPUT: true; the input reads as it did. -/
def waysApartSpec : ChangeSpec := { name := "waysApart", fn := fun _ => fun
  | [d1, d2, d3] => { results := [.lit (.bool true)], args := [d1, d2, d3] }
  | _ => none }
def waysApartRow : OpenClaim := { program := "ytinjdimejijabaa", sum := "04afb4c2dc52179370a0f8ad3c751ef078a676df8708976afa41f454cfec5784", func := "bastion/bastionlaw11.WaysApart", spec := "waysApart", unfollowed := true, recurses := true, apart := false }
def WaysApartSaid : Prop := waysApartRow.holds Try.pinned (OpenSpec.ofChange waysApartSpec)

/-- ITS FALSE NEIGHBOUR: 'it returns false'. Refute it at one input. -/
def waysApartWrong : ChangeSpec := { name := "waysApart", fn := fun _ => fun
  | [d1, d2, d3] => { results := [.lit (.bool false)], args := [d1, d2, d3] }
  | _ => none }
def WaysApartWrongFalsely : Prop := waysApartRow.holds Try.pinned (OpenSpec.ofChange waysApartWrong)

/-- 'bastionlaw22.FlatFront': WHATEVER THE INPUT: true; the input reads as it did. -/
def flatFrontSpec : ChangeSpec := { name := "flatFront", fn := fun _ => fun
  | [d1, d2, d3] => { results := [.lit (.bool true)], args := [d1, d2, d3] }
  | _ => none }
def flatFrontRow : OpenClaim := { program := "ytinjdimejijabaa", sum := "04afb4c2dc52179370a0f8ad3c751ef078a676df8708976afa41f454cfec5784", func := "bastion/bastionlaw22.FlatFront", spec := "flatFront", apart := false }
def FlatFrontSaid : Prop := flatFrontRow.holds Try.pinned (OpenSpec.ofChange flatFrontSpec)

/-- ITS FALSE NEIGHBOUR: 'it returns false'. Refute it at one input. -/
def flatFrontWrong : ChangeSpec := { name := "flatFront", fn := fun _ => fun
  | [d1, d2, d3] => { results := [.lit (.bool false)], args := [d1, d2, d3] }
  | _ => none }
def FlatFrontWrongFalsely : Prop := flatFrontRow.holds Try.pinned (OpenSpec.ofChange flatFrontWrong)

/-- 'bastionlaw22.FlatDoes': WHATEVER THE INPUT: true; the input reads as it did. -/
def flatDoesSpec : ChangeSpec := { name := "flatDoes", fn := fun _ => fun
  | [d1, d2, d3] => { results := [.lit (.bool true)], args := [d1, d2, d3] }
  | _ => none }
def flatDoesRow : OpenClaim := { program := "ytinjdimejijabaa", sum := "04afb4c2dc52179370a0f8ad3c751ef078a676df8708976afa41f454cfec5784", func := "bastion/bastionlaw22.FlatDoes", spec := "flatDoes", apart := false }
def FlatDoesSaid : Prop := flatDoesRow.holds Try.pinned (OpenSpec.ofChange flatDoesSpec)

/-- ITS FALSE NEIGHBOUR: 'it returns false'. Refute it at one input. -/
def flatDoesWrong : ChangeSpec := { name := "flatDoes", fn := fun _ => fun
  | [d1, d2, d3] => { results := [.lit (.bool false)], args := [d1, d2, d3] }
  | _ => none }
def FlatDoesWrongFalsely : Prop := flatDoesRow.holds Try.pinned (OpenSpec.ofChange flatDoesWrong)

/-- 'bastionlaw22.FlatChecks': WHATEVER THE INPUT: true; the input reads as it did. -/
def flatChecksSpec : ChangeSpec := { name := "flatChecks", fn := fun _ => fun
  | [d1, d2] => { results := [.lit (.bool true)], args := [d1, d2] }
  | _ => none }
def flatChecksRow : OpenClaim := { program := "ytinjdimejijabaa", sum := "04afb4c2dc52179370a0f8ad3c751ef078a676df8708976afa41f454cfec5784", func := "bastion/bastionlaw22.FlatChecks", spec := "flatChecks", apart := false }
def FlatChecksSaid : Prop := flatChecksRow.holds Try.pinned (OpenSpec.ofChange flatChecksSpec)

/-- ITS FALSE NEIGHBOUR: 'it returns false'. Refute it at one input. -/
def flatChecksWrong : ChangeSpec := { name := "flatChecks", fn := fun _ => fun
  | [d1, d2] => { results := [.lit (.bool false)], args := [d1, d2] }
  | _ => none }
def FlatChecksWrongFalsely : Prop := flatChecksRow.holds Try.pinned (OpenSpec.ofChange flatChecksWrong)

/-- 'bastionlaw11.WaysOrder': WHATEVER THE INPUT: true; the input reads as it did. -/
def waysOrderSpec : ChangeSpec := { name := "waysOrder", fn := fun _ => fun
  | [d1, d2, d3] => { results := [.lit (.bool true)], args := [d1, d2, d3] }
  | _ => none }
def waysOrderRow : OpenClaim := { program := "ytinjdimejijabaa", sum := "04afb4c2dc52179370a0f8ad3c751ef078a676df8708976afa41f454cfec5784", func := "bastion/bastionlaw11.WaysOrder", spec := "waysOrder", unfollowed := true, recurses := true, apart := false }
def WaysOrderSaid : Prop := waysOrderRow.holds Try.pinned (OpenSpec.ofChange waysOrderSpec)

/-- ITS FALSE NEIGHBOUR: 'it returns false'. Refute it at one input. -/
def waysOrderWrong : ChangeSpec := { name := "waysOrder", fn := fun _ => fun
  | [d1, d2, d3] => { results := [.lit (.bool false)], args := [d1, d2, d3] }
  | _ => none }
def WaysOrderWrongFalsely : Prop := waysOrderRow.holds Try.pinned (OpenSpec.ofChange waysOrderWrong)

/-- 'bastionlaw11.WaysCalls': WHATEVER THE INPUT: true; the input reads as it did. -/
def waysCallsSpec : ChangeSpec := { name := "waysCalls", fn := fun _ => fun
  | [d1, d2, d3] => { results := [.lit (.bool true)], args := [d1, d2, d3] }
  | _ => none }
def waysCallsRow : OpenClaim := { program := "ytinjdimejijabaa", sum := "04afb4c2dc52179370a0f8ad3c751ef078a676df8708976afa41f454cfec5784", func := "bastion/bastionlaw11.WaysCalls", spec := "waysCalls", unfollowed := true, recurses := true, apart := false }
def WaysCallsSaid : Prop := waysCallsRow.holds Try.pinned (OpenSpec.ofChange waysCallsSpec)

/-- ITS FALSE NEIGHBOUR: 'it returns false'. Refute it at one input. -/
def waysCallsWrong : ChangeSpec := { name := "waysCalls", fn := fun _ => fun
  | [d1, d2, d3] => { results := [.lit (.bool false)], args := [d1, d2, d3] }
  | _ => none }
def WaysCallsWrongFalsely : Prop := waysCallsRow.holds Try.pinned (OpenSpec.ofChange waysCallsWrong)

/- THE SECOND FORM. 'bulk': how many values and letters a reading holds, each counted each time it is reached (what is shared counts as often as it is met; a slice's spare places count too). A statement '..UptoSaid' is the law's where the arguments, and the package variables that the reading takes, are together of bulk at most 1048576: NARROWER than '..Said'. Prove '..Said' where nothing that the law and all that it calls make is longer than what came in: it says more and counts as full. Else prove '..UptoSaid'. A law counts once. -/
mutual
def uptoBulk {H : Type} : DataW H → Nat
  | .lit (.string bytes) => bytes.length + 1
  | .lit _ => 1
  | .nil => 1
  | .ptr d => uptoBulk d + 1
  | .slice elems spare => uptoBulkAll elems + uptoBulkAll spare + 1
  | .agg parts => uptoBulkAll parts + 1
  | .iface _ d => uptoBulk d + 1
  | .map entries => uptoBulkEntries entries + 1
  | .held _ => 1
def uptoBulkAll {H : Type} : List (DataW H) → Nat
  | [] => 0
  | d :: r => uptoBulk d + uptoBulkAll r
def uptoBulkEntries {H : Type} : List (Lit × DataW H) → Nat
  | [] => 0
  | x :: r => uptoBulkEntry x + uptoBulkEntries r
def uptoBulkEntry {H : Type} : Lit × DataW H → Nat
  | (.string bytes, d) => bytes.length + uptoBulk d + 1
  | (_, d) => uptoBulk d + 1
 end
def uptoSmall : (H : Type) → List (DataW H) → Bool := fun _ ds => decide (uptoBulkAll ds ≤ 1048576)
def OpenSpec.upto (s : _root_.Go.ChangeSpec) : _root_.Go.OpenSpec := { _root_.Go.OpenSpec.ofChange s with cond := some uptoSmall }

/-- 'bastionlaw05.PlanTree', WHERE WHAT IT READS IS OF BULK AT MOST 1048576: true; the input reads as it did. -/
def planTreeUptoRow : OpenClaim := { program := "ytinjdimejijabaa", sum := "04afb4c2dc52179370a0f8ad3c751ef078a676df8708976afa41f454cfec5784", func := "bastion/bastionlaw05.PlanTree", spec := "planTree", apart := false, narrowed := true }
def PlanTreeUptoSaid : Prop := planTreeUptoRow.holds Try.pinned (OpenSpec.upto planTreeSpec)

/-- 'bastionlaw11.WaysHolds', WHERE WHAT IT READS IS OF BULK AT MOST 1048576: true; the input reads as it did. -/
def waysHoldsUptoRow : OpenClaim := { program := "ytinjdimejijabaa", sum := "04afb4c2dc52179370a0f8ad3c751ef078a676df8708976afa41f454cfec5784", func := "bastion/bastionlaw11.WaysHolds", spec := "waysHolds", unfollowed := true, recurses := true, apart := false, narrowed := true }
def WaysHoldsUptoSaid : Prop := waysHoldsUptoRow.holds Try.pinned (OpenSpec.upto waysHoldsSpec)

/-- 'bastionlaw11.WaysApart', WHERE WHAT IT READS IS OF BULK AT MOST 1048576: true; the input reads as it did. -/
def waysApartUptoRow : OpenClaim := { program := "ytinjdimejijabaa", sum := "04afb4c2dc52179370a0f8ad3c751ef078a676df8708976afa41f454cfec5784", func := "bastion/bastionlaw11.WaysApart", spec := "waysApart", unfollowed := true, recurses := true, apart := false, narrowed := true }
def WaysApartUptoSaid : Prop := waysApartUptoRow.holds Try.pinned (OpenSpec.upto waysApartSpec)

/-- 'bastionlaw22.FlatFront', WHERE WHAT IT READS IS OF BULK AT MOST 1048576: true; the input reads as it did. -/
def flatFrontUptoRow : OpenClaim := { program := "ytinjdimejijabaa", sum := "04afb4c2dc52179370a0f8ad3c751ef078a676df8708976afa41f454cfec5784", func := "bastion/bastionlaw22.FlatFront", spec := "flatFront", apart := false, narrowed := true }
def FlatFrontUptoSaid : Prop := flatFrontUptoRow.holds Try.pinned (OpenSpec.upto flatFrontSpec)

/-- 'bastionlaw22.FlatDoes', WHERE WHAT IT READS IS OF BULK AT MOST 1048576: true; the input reads as it did. -/
def flatDoesUptoRow : OpenClaim := { program := "ytinjdimejijabaa", sum := "04afb4c2dc52179370a0f8ad3c751ef078a676df8708976afa41f454cfec5784", func := "bastion/bastionlaw22.FlatDoes", spec := "flatDoes", apart := false, narrowed := true }
def FlatDoesUptoSaid : Prop := flatDoesUptoRow.holds Try.pinned (OpenSpec.upto flatDoesSpec)

/-- 'bastionlaw22.FlatChecks', WHERE WHAT IT READS IS OF BULK AT MOST 1048576: true; the input reads as it did. -/
def flatChecksUptoRow : OpenClaim := { program := "ytinjdimejijabaa", sum := "04afb4c2dc52179370a0f8ad3c751ef078a676df8708976afa41f454cfec5784", func := "bastion/bastionlaw22.FlatChecks", spec := "flatChecks", apart := false, narrowed := true }
def FlatChecksUptoSaid : Prop := flatChecksUptoRow.holds Try.pinned (OpenSpec.upto flatChecksSpec)

/-- 'bastionlaw11.WaysOrder', WHERE WHAT IT READS IS OF BULK AT MOST 1048576: true; the input reads as it did. -/
def waysOrderUptoRow : OpenClaim := { program := "ytinjdimejijabaa", sum := "04afb4c2dc52179370a0f8ad3c751ef078a676df8708976afa41f454cfec5784", func := "bastion/bastionlaw11.WaysOrder", spec := "waysOrder", unfollowed := true, recurses := true, apart := false, narrowed := true }
def WaysOrderUptoSaid : Prop := waysOrderUptoRow.holds Try.pinned (OpenSpec.upto waysOrderSpec)

/-- 'bastionlaw11.WaysCalls', WHERE WHAT IT READS IS OF BULK AT MOST 1048576: true; the input reads as it did. -/
def waysCallsUptoRow : OpenClaim := { program := "ytinjdimejijabaa", sum := "04afb4c2dc52179370a0f8ad3c751ef078a676df8708976afa41f454cfec5784", func := "bastion/bastionlaw11.WaysCalls", spec := "waysCalls", unfollowed := true, recurses := true, apart := false, narrowed := true }
def WaysCallsUptoSaid : Prop := waysCallsUptoRow.holds Try.pinned (OpenSpec.upto waysCallsSpec)

end Rows
end Go.Proofs.Ytinjdimejijabaa
