/-
  No cell of these rows narrows 'for every input' (looked for: loops, veiled, ifaces, maps, wideKeys, modest, calm, conditions, laid).
  DERIVED. THE GIVEN ROWS OF THIS SEAT. 9 by the template 'for every input the law returns true; each argument reads behind the call as it read before'; 0 by the template 'total and deterministic' (their statements: YtggpebgigddogaaTotals.lean).
  GIVEN WITH THE SEED: the statements are not yours to turn. If you find one false, say at which input.
  Laid BY PROGRAM, IN A SANDBOX (cutbox-rows.mjs): the forced cells as the released guide's own fill.sh prints them over the translation 5378fb5b303ef99f… (all of the seat's roots in one cut). By AI agents, Wed Nov 11 2026. No macro, syntax, notation, axiom, sorry.
-/
import Derived.Test.YtggpebgigddogaaChecked
import GoSem.Claim
import GoSem.ClaimJoined
import GoSem.ClaimMapViews
import Derived.JoinedTies
import Derived.KernelRfl
namespace Go.Proofs.Ytggpebgigddogaa
/- THE CELL 'sum', in the pinned program and in every row, IS THE sha256 OF THE DUMP (.gsa) THAT YtggpebgigddogaaProg.lean LOADS. Nothing in Lean hashes anything: it is a label: what it is worth is what the hold of that sum in a sandbox is worth. -/
noncomputable def Try.pinned : Pinned := { name := "ytggpebgigddogaa", sum := "5378fb5b303ef99f409e1b874e18bd62b68a715b2862bf971d69450d1d5da913", checked := Try.checked }
namespace Rows
def none {H : Type} : Left H := { results := [], args := [] }

/-- 'bastionlaw07.CodeNext': WHATEVER THE INPUT: true; the input reads as it did. -/
def codeNextSpec : ChangeSpec := { name := "codeNext", fn := fun _ => fun
  | [d1, d2, d3] => { results := [.lit (.bool true)], args := [d1, d2, d3] }
  | _ => none }
def codeNextRow : OpenClaim := { program := "ytggpebgigddogaa", sum := "5378fb5b303ef99f409e1b874e18bd62b68a715b2862bf971d69450d1d5da913", func := "bastion/bastionlaw07.CodeNext", spec := "codeNext", unfollowed := true, recurses := true, apart := false }
def CodeNextSaid : Prop := codeNextRow.holds Try.pinned (OpenSpec.ofChange codeNextSpec)

/-- ITS FALSE NEIGHBOUR: 'it returns false'. Refute it at one input. -/
def codeNextWrong : ChangeSpec := { name := "codeNext", fn := fun _ => fun
  | [d1, d2, d3] => { results := [.lit (.bool false)], args := [d1, d2, d3] }
  | _ => none }
def CodeNextWrongFalsely : Prop := codeNextRow.holds Try.pinned (OpenSpec.ofChange codeNextWrong)

/-- 'bastionlaw07.CodeTurns': WHATEVER THE INPUT: true; the input reads as it did. -/
def codeTurnsSpec : ChangeSpec := { name := "codeTurns", fn := fun _ => fun
  | [d1, d2] => { results := [.lit (.bool true)], args := [d1, d2] }
  | _ => none }
def codeTurnsRow : OpenClaim := { program := "ytggpebgigddogaa", sum := "5378fb5b303ef99f409e1b874e18bd62b68a715b2862bf971d69450d1d5da913", func := "bastion/bastionlaw07.CodeTurns", spec := "codeTurns", unfollowed := true, recurses := true, apart := false }
def CodeTurnsSaid : Prop := codeTurnsRow.holds Try.pinned (OpenSpec.ofChange codeTurnsSpec)

/-- ITS FALSE NEIGHBOUR: 'it returns false'. Refute it at one input. -/
def codeTurnsWrong : ChangeSpec := { name := "codeTurns", fn := fun _ => fun
  | [d1, d2] => { results := [.lit (.bool false)], args := [d1, d2] }
  | _ => none }
def CodeTurnsWrongFalsely : Prop := codeTurnsRow.holds Try.pinned (OpenSpec.ofChange codeTurnsWrong)

/-- 'bastionlaw07.CodeOnce': WHATEVER THE INPUT: true; the input reads as it did. -/
def codeOnceSpec : ChangeSpec := { name := "codeOnce", fn := fun _ => fun
  | [d1, d2, d3] => { results := [.lit (.bool true)], args := [d1, d2, d3] }
  | _ => none }
def codeOnceRow : OpenClaim := { program := "ytggpebgigddogaa", sum := "5378fb5b303ef99f409e1b874e18bd62b68a715b2862bf971d69450d1d5da913", func := "bastion/bastionlaw07.CodeOnce", spec := "codeOnce", unfollowed := true, recurses := true, apart := false }
def CodeOnceSaid : Prop := codeOnceRow.holds Try.pinned (OpenSpec.ofChange codeOnceSpec)

/-- ITS FALSE NEIGHBOUR: 'it returns false'. Refute it at one input. -/
def codeOnceWrong : ChangeSpec := { name := "codeOnce", fn := fun _ => fun
  | [d1, d2, d3] => { results := [.lit (.bool false)], args := [d1, d2, d3] }
  | _ => none }
def CodeOnceWrongFalsely : Prop := codeOnceRow.holds Try.pinned (OpenSpec.ofChange codeOnceWrong)

/-- 'bastionlaw08.DramUse': WHATEVER THE INPUT: true; the input reads as it did. -/
def dramUseSpec : ChangeSpec := { name := "dramUse", fn := fun _ => fun
  | [d1, d2, d3, d4] => { results := [.lit (.bool true)], args := [d1, d2, d3, d4] }
  | _ => none }
def dramUseRow : OpenClaim := { program := "ytggpebgigddogaa", sum := "5378fb5b303ef99f409e1b874e18bd62b68a715b2862bf971d69450d1d5da913", func := "bastion/bastionlaw08.DramUse", spec := "dramUse", apart := false }
def DramUseSaid : Prop := dramUseRow.holds Try.pinned (OpenSpec.ofChange dramUseSpec)

/-- ITS FALSE NEIGHBOUR: 'it returns false'. Refute it at one input. -/
def dramUseWrong : ChangeSpec := { name := "dramUse", fn := fun _ => fun
  | [d1, d2, d3, d4] => { results := [.lit (.bool false)], args := [d1, d2, d3, d4] }
  | _ => none }
def DramUseWrongFalsely : Prop := dramUseRow.holds Try.pinned (OpenSpec.ofChange dramUseWrong)

/-- 'bastionlaw08.DramFlips': WHATEVER THE INPUT: true; the input reads as it did. -/
def dramFlipsSpec : ChangeSpec := { name := "dramFlips", fn := fun _ => fun
  | [d1, d2] => { results := [.lit (.bool true)], args := [d1, d2] }
  | _ => none }
def dramFlipsRow : OpenClaim := { program := "ytggpebgigddogaa", sum := "5378fb5b303ef99f409e1b874e18bd62b68a715b2862bf971d69450d1d5da913", func := "bastion/bastionlaw08.DramFlips", spec := "dramFlips", apart := false }
def DramFlipsSaid : Prop := dramFlipsRow.holds Try.pinned (OpenSpec.ofChange dramFlipsSpec)

/-- ITS FALSE NEIGHBOUR: 'it returns false'. Refute it at one input. -/
def dramFlipsWrong : ChangeSpec := { name := "dramFlips", fn := fun _ => fun
  | [d1, d2] => { results := [.lit (.bool false)], args := [d1, d2] }
  | _ => none }
def DramFlipsWrongFalsely : Prop := dramFlipsRow.holds Try.pinned (OpenSpec.ofChange dramFlipsWrong)

/-- 'bastionlaw08.DramDrops': WHATEVER THE INPUT: true; the input reads as it did. -/
def dramDropsSpec : ChangeSpec := { name := "dramDrops", fn := fun _ => fun
  | [d1, d2] => { results := [.lit (.bool true)], args := [d1, d2] }
  | _ => none }
def dramDropsRow : OpenClaim := { program := "ytggpebgigddogaa", sum := "5378fb5b303ef99f409e1b874e18bd62b68a715b2862bf971d69450d1d5da913", func := "bastion/bastionlaw08.DramDrops", spec := "dramDrops", apart := false }
def DramDropsSaid : Prop := dramDropsRow.holds Try.pinned (OpenSpec.ofChange dramDropsSpec)

/-- ITS FALSE NEIGHBOUR: 'it returns false'. Refute it at one input. -/
def dramDropsWrong : ChangeSpec := { name := "dramDrops", fn := fun _ => fun
  | [d1, d2] => { results := [.lit (.bool false)], args := [d1, d2] }
  | _ => none }
def DramDropsWrongFalsely : Prop := dramDropsRow.holds Try.pinned (OpenSpec.ofChange dramDropsWrong)

/-- 'bastionlaw07.CodeMessages': WHATEVER THE INPUT: true; the input reads as it did. -/
def codeMessagesSpec : ChangeSpec := { name := "codeMessages", fn := fun _ => fun
  | [d1, d2, d3, d4, d5, d6, d7, d8, d9, d10] => { results := [.lit (.bool true)], args := [d1, d2, d3, d4, d5, d6, d7, d8, d9, d10] }
  | _ => none }
def codeMessagesRow : OpenClaim := { program := "ytggpebgigddogaa", sum := "5378fb5b303ef99f409e1b874e18bd62b68a715b2862bf971d69450d1d5da913", func := "bastion/bastionlaw07.CodeMessages", spec := "codeMessages", unfollowed := true, recurses := true, apart := false }
def CodeMessagesSaid : Prop := codeMessagesRow.holds Try.pinned (OpenSpec.ofChange codeMessagesSpec)

/-- ITS FALSE NEIGHBOUR: 'it returns false'. Refute it at one input. -/
def codeMessagesWrong : ChangeSpec := { name := "codeMessages", fn := fun _ => fun
  | [d1, d2, d3, d4, d5, d6, d7, d8, d9, d10] => { results := [.lit (.bool false)], args := [d1, d2, d3, d4, d5, d6, d7, d8, d9, d10] }
  | _ => none }
def CodeMessagesWrongFalsely : Prop := codeMessagesRow.holds Try.pinned (OpenSpec.ofChange codeMessagesWrong)

/-- 'bastionlaw07.CodeCounters': WHATEVER THE INPUT: true; the input reads as it did. -/
def codeCountersSpec : ChangeSpec := { name := "codeCounters", fn := fun _ => fun
  | [d1, d2, d3] => { results := [.lit (.bool true)], args := [d1, d2, d3] }
  | _ => none }
def codeCountersRow : OpenClaim := { program := "ytggpebgigddogaa", sum := "5378fb5b303ef99f409e1b874e18bd62b68a715b2862bf971d69450d1d5da913", func := "bastion/bastionlaw07.CodeCounters", spec := "codeCounters", unfollowed := true, recurses := true, apart := false }
def CodeCountersSaid : Prop := codeCountersRow.holds Try.pinned (OpenSpec.ofChange codeCountersSpec)

/-- ITS FALSE NEIGHBOUR: 'it returns false'. Refute it at one input. -/
def codeCountersWrong : ChangeSpec := { name := "codeCounters", fn := fun _ => fun
  | [d1, d2, d3] => { results := [.lit (.bool false)], args := [d1, d2, d3] }
  | _ => none }
def CodeCountersWrongFalsely : Prop := codeCountersRow.holds Try.pinned (OpenSpec.ofChange codeCountersWrong)

/-- 'bastionlaw07.CodeNodes': WHATEVER THE INPUT: true; the input reads as it did. -/
def codeNodesSpec : ChangeSpec := { name := "codeNodes", fn := fun _ => fun
  | [d1, d2, d3, d4] => { results := [.lit (.bool true)], args := [d1, d2, d3, d4] }
  | _ => none }
def codeNodesRow : OpenClaim := { program := "ytggpebgigddogaa", sum := "5378fb5b303ef99f409e1b874e18bd62b68a715b2862bf971d69450d1d5da913", func := "bastion/bastionlaw07.CodeNodes", spec := "codeNodes", unfollowed := true, recurses := true, apart := false }
def CodeNodesSaid : Prop := codeNodesRow.holds Try.pinned (OpenSpec.ofChange codeNodesSpec)

/-- ITS FALSE NEIGHBOUR: 'it returns false'. Refute it at one input. -/
def codeNodesWrong : ChangeSpec := { name := "codeNodes", fn := fun _ => fun
  | [d1, d2, d3, d4] => { results := [.lit (.bool false)], args := [d1, d2, d3, d4] }
  | _ => none }
def CodeNodesWrongFalsely : Prop := codeNodesRow.holds Try.pinned (OpenSpec.ofChange codeNodesWrong)

/- THE SECOND FORM. 'bulk': how many values and letters a reading holds, each counted each time it is reached (what is shared counts as often as it is met; a slice's spare places count too). A statement '..UptoSaid' is the law's where the arguments, and the package variables that the reading takes, are together of bulk at most 1048576: NARROWER than '..Said'. Prove '..Said' where nothing that the law and all that it calls make is longer than what came in: it says more and counts as full. Else prove '..UptoSaid'. A law counts once. -/
mutual
def uptoBulk {H : Type} : DataW H → Nat
  | .lit (.string bytes) => bytes.length + 1
  | .lit _ => 1
  | .nil => 1
  | .ptr d => uptoBulk d + 1
  | .slice elems spare => uptoBulkAll elems + uptoBulkAll spare + 1
  | .agg parts => uptoBulkAll parts + 1
  | .iface _ d => uptoBulk d + 1
  | .map entries => uptoBulkEntries entries + 1
  | .held _ => 1
def uptoBulkAll {H : Type} : List (DataW H) → Nat
  | [] => 0
  | d :: r => uptoBulk d + uptoBulkAll r
def uptoBulkEntries {H : Type} : List (Lit × DataW H) → Nat
  | [] => 0
  | x :: r => uptoBulkEntry x + uptoBulkEntries r
def uptoBulkEntry {H : Type} : Lit × DataW H → Nat
  | (.string bytes, d) => bytes.length + uptoBulk d + 1
  | (_, d) => uptoBulk d + 1
 end
def uptoSmall : (H : Type) → List (DataW H) → Bool := fun _ ds => decide (uptoBulkAll ds ≤ 1048576)
def OpenSpec.upto (s : _root_.Go.ChangeSpec) : _root_.Go.OpenSpec := { _root_.Go.OpenSpec.ofChange s with cond := some uptoSmall }

/-- 'bastionlaw07.CodeNext', WHERE WHAT IT READS IS OF BULK AT MOST 1048576: true; the input reads as it did. -/
def codeNextUptoRow : OpenClaim := { program := "ytggpebgigddogaa", sum := "5378fb5b303ef99f409e1b874e18bd62b68a715b2862bf971d69450d1d5da913", func := "bastion/bastionlaw07.CodeNext", spec := "codeNext", unfollowed := true, recurses := true, apart := false, narrowed := true }
def CodeNextUptoSaid : Prop := codeNextUptoRow.holds Try.pinned (OpenSpec.upto codeNextSpec)

/-- 'bastionlaw07.CodeTurns', WHERE WHAT IT READS IS OF BULK AT MOST 1048576: true; the input reads as it did. -/
def codeTurnsUptoRow : OpenClaim := { program := "ytggpebgigddogaa", sum := "5378fb5b303ef99f409e1b874e18bd62b68a715b2862bf971d69450d1d5da913", func := "bastion/bastionlaw07.CodeTurns", spec := "codeTurns", unfollowed := true, recurses := true, apart := false, narrowed := true }
def CodeTurnsUptoSaid : Prop := codeTurnsUptoRow.holds Try.pinned (OpenSpec.upto codeTurnsSpec)

/-- 'bastionlaw07.CodeOnce', WHERE WHAT IT READS IS OF BULK AT MOST 1048576: true; the input reads as it did. -/
def codeOnceUptoRow : OpenClaim := { program := "ytggpebgigddogaa", sum := "5378fb5b303ef99f409e1b874e18bd62b68a715b2862bf971d69450d1d5da913", func := "bastion/bastionlaw07.CodeOnce", spec := "codeOnce", unfollowed := true, recurses := true, apart := false, narrowed := true }
def CodeOnceUptoSaid : Prop := codeOnceUptoRow.holds Try.pinned (OpenSpec.upto codeOnceSpec)

/-- 'bastionlaw08.DramUse', WHERE WHAT IT READS IS OF BULK AT MOST 1048576: true; the input reads as it did. -/
def dramUseUptoRow : OpenClaim := { program := "ytggpebgigddogaa", sum := "5378fb5b303ef99f409e1b874e18bd62b68a715b2862bf971d69450d1d5da913", func := "bastion/bastionlaw08.DramUse", spec := "dramUse", apart := false, narrowed := true }
def DramUseUptoSaid : Prop := dramUseUptoRow.holds Try.pinned (OpenSpec.upto dramUseSpec)

/-- 'bastionlaw08.DramFlips', WHERE WHAT IT READS IS OF BULK AT MOST 1048576: true; the input reads as it did. -/
def dramFlipsUptoRow : OpenClaim := { program := "ytggpebgigddogaa", sum := "5378fb5b303ef99f409e1b874e18bd62b68a715b2862bf971d69450d1d5da913", func := "bastion/bastionlaw08.DramFlips", spec := "dramFlips", apart := false, narrowed := true }
def DramFlipsUptoSaid : Prop := dramFlipsUptoRow.holds Try.pinned (OpenSpec.upto dramFlipsSpec)

/-- 'bastionlaw08.DramDrops', WHERE WHAT IT READS IS OF BULK AT MOST 1048576: true; the input reads as it did. -/
def dramDropsUptoRow : OpenClaim := { program := "ytggpebgigddogaa", sum := "5378fb5b303ef99f409e1b874e18bd62b68a715b2862bf971d69450d1d5da913", func := "bastion/bastionlaw08.DramDrops", spec := "dramDrops", apart := false, narrowed := true }
def DramDropsUptoSaid : Prop := dramDropsUptoRow.holds Try.pinned (OpenSpec.upto dramDropsSpec)

/-- 'bastionlaw07.CodeMessages', WHERE WHAT IT READS IS OF BULK AT MOST 1048576: true; the input reads as it did. -/
def codeMessagesUptoRow : OpenClaim := { program := "ytggpebgigddogaa", sum := "5378fb5b303ef99f409e1b874e18bd62b68a715b2862bf971d69450d1d5da913", func := "bastion/bastionlaw07.CodeMessages", spec := "codeMessages", unfollowed := true, recurses := true, apart := false, narrowed := true }
def CodeMessagesUptoSaid : Prop := codeMessagesUptoRow.holds Try.pinned (OpenSpec.upto codeMessagesSpec)

/-- 'bastionlaw07.CodeCounters', WHERE WHAT IT READS IS OF BULK AT MOST 1048576: true; the input reads as it did. -/
def codeCountersUptoRow : OpenClaim := { program := "ytggpebgigddogaa", sum := "5378fb5b303ef99f409e1b874e18bd62b68a715b2862bf971d69450d1d5da913", func := "bastion/bastionlaw07.CodeCounters", spec := "codeCounters", unfollowed := true, recurses := true, apart := false, narrowed := true }
def CodeCountersUptoSaid : Prop := codeCountersUptoRow.holds Try.pinned (OpenSpec.upto codeCountersSpec)

/-- 'bastionlaw07.CodeNodes', WHERE WHAT IT READS IS OF BULK AT MOST 1048576: true; the input reads as it did. -/
def codeNodesUptoRow : OpenClaim := { program := "ytggpebgigddogaa", sum := "5378fb5b303ef99f409e1b874e18bd62b68a715b2862bf971d69450d1d5da913", func := "bastion/bastionlaw07.CodeNodes", spec := "codeNodes", unfollowed := true, recurses := true, apart := false, narrowed := true }
def CodeNodesUptoSaid : Prop := codeNodesUptoRow.holds Try.pinned (OpenSpec.upto codeNodesSpec)

end Rows
end Go.Proofs.Ytggpebgigddogaa
