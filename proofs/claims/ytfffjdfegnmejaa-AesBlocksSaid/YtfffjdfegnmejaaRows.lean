/-
  No cell of these rows narrows 'for every input' (looked for: loops, veiled, ifaces, maps, wideKeys, modest, calm, conditions, laid).
  DERIVED. THE GIVEN ROWS OF THIS SEAT. 4 by the template 'for every input the law returns true; each argument reads behind the call as it read before'; 0 by the template 'total and deterministic' (their statements: YtfffjdfegnmejaaTotals.lean).
  GIVEN WITH THE SEED: the statements are not yours to turn. If you find one false, say at which input.
  Laid BY PROGRAM, IN A SANDBOX (cutbox-rows.mjs): the forced cells as the released guide's own fill.sh prints them over the translation c386f91b843c880f… (all of the seat's roots in one cut). By AI agents, Wed Nov 11 2026. No macro, syntax, notation, axiom, sorry.
-/
import Derived.Test.YtfffjdfegnmejaaChecked
import GoSem.Claim
import GoSem.ClaimJoined
import GoSem.ClaimMapViews
import Derived.JoinedTies
import Derived.KernelRfl
namespace Go.Proofs.Ytfffjdfegnmejaa
/- THE CELL 'sum', in the pinned program and in every row, IS THE sha256 OF THE DUMP (.gsa) THAT YtfffjdfegnmejaaProg.lean LOADS. Nothing in Lean hashes anything: it is a label: what it is worth is what the hold of that sum in a sandbox is worth. -/
noncomputable def Try.pinned : Pinned := { name := "ytfffjdfegnmejaa", sum := "c386f91b843c880f2d023c58e13e911365c748e9b740c0cfb245dd93bb5ae281", checked := Try.checked }
namespace Rows
def none {H : Type} : Left H := { results := [], args := [] }

/-- 'bastionlaw02.AesBlocks': WHATEVER THE INPUT: true; the input reads as it did. -/
def aesBlocksSpec : ChangeSpec := { name := "aesBlocks", fn := fun _ => fun
  | [d1, d2] => { results := [.lit (.bool true)], args := [d1, d2] }
  | _ => none }
def aesBlocksRow : OpenClaim := { program := "ytfffjdfegnmejaa", sum := "c386f91b843c880f2d023c58e13e911365c748e9b740c0cfb245dd93bb5ae281", func := "bastion/bastionlaw02.AesBlocks", spec := "aesBlocks", plainKeys := false, apart := false }
def AesBlocksSaid : Prop := aesBlocksRow.holds Try.pinned (OpenSpec.ofChange aesBlocksSpec)

/-- ITS FALSE NEIGHBOUR: 'it returns false'. Refute it at one input. -/
def aesBlocksWrong : ChangeSpec := { name := "aesBlocks", fn := fun _ => fun
  | [d1, d2] => { results := [.lit (.bool false)], args := [d1, d2] }
  | _ => none }
def AesBlocksWrongFalsely : Prop := aesBlocksRow.holds Try.pinned (OpenSpec.ofChange aesBlocksWrong)

/-- 'bastionlaw12.PadLines': WHATEVER THE INPUT: true; the input reads as it did. -/
def padLinesSpec : ChangeSpec := { name := "padLines", fn := fun _ => fun
  | [d1, d2] => { results := [.lit (.bool true)], args := [d1, d2] }
  | _ => none }
def padLinesRow : OpenClaim := { program := "ytfffjdfegnmejaa", sum := "c386f91b843c880f2d023c58e13e911365c748e9b740c0cfb245dd93bb5ae281", func := "bastion/bastionlaw12.PadLines", spec := "padLines", unfollowed := true, recurses := true, plainKeys := false, apart := false }
def PadLinesSaid : Prop := padLinesRow.holds Try.pinned (OpenSpec.ofChange padLinesSpec)

/-- ITS FALSE NEIGHBOUR: 'it returns false'. Refute it at one input. -/
def padLinesWrong : ChangeSpec := { name := "padLines", fn := fun _ => fun
  | [d1, d2] => { results := [.lit (.bool false)], args := [d1, d2] }
  | _ => none }
def PadLinesWrongFalsely : Prop := padLinesRow.holds Try.pinned (OpenSpec.ofChange padLinesWrong)

/-- 'bastionlaw12.PadBack': WHATEVER THE INPUT: true; the input reads as it did. -/
def padBackSpec : ChangeSpec := { name := "padBack", fn := fun _ => fun
  | [d1, d2] => { results := [.lit (.bool true)], args := [d1, d2] }
  | _ => none }
def padBackRow : OpenClaim := { program := "ytfffjdfegnmejaa", sum := "c386f91b843c880f2d023c58e13e911365c748e9b740c0cfb245dd93bb5ae281", func := "bastion/bastionlaw12.PadBack", spec := "padBack", unfollowed := true, recurses := true, plainKeys := false, apart := false }
def PadBackSaid : Prop := padBackRow.holds Try.pinned (OpenSpec.ofChange padBackSpec)

/-- ITS FALSE NEIGHBOUR: 'it returns false'. Refute it at one input. -/
def padBackWrong : ChangeSpec := { name := "padBack", fn := fun _ => fun
  | [d1, d2] => { results := [.lit (.bool false)], args := [d1, d2] }
  | _ => none }
def PadBackWrongFalsely : Prop := padBackRow.holds Try.pinned (OpenSpec.ofChange padBackWrong)

/-- 'bastionlaw12.PadUnlike': WHATEVER THE INPUT: true; the input reads as it did. -/
def padUnlikeSpec : ChangeSpec := { name := "padUnlike", fn := fun _ => fun
  | [d1, d2, d3] => { results := [.lit (.bool true)], args := [d1, d2, d3] }
  | _ => none }
def padUnlikeRow : OpenClaim := { program := "ytfffjdfegnmejaa", sum := "c386f91b843c880f2d023c58e13e911365c748e9b740c0cfb245dd93bb5ae281", func := "bastion/bastionlaw12.PadUnlike", spec := "padUnlike", unfollowed := true, recurses := true, plainKeys := false, apart := false }
def PadUnlikeSaid : Prop := padUnlikeRow.holds Try.pinned (OpenSpec.ofChange padUnlikeSpec)

/-- ITS FALSE NEIGHBOUR: 'it returns false'. Refute it at one input. -/
def padUnlikeWrong : ChangeSpec := { name := "padUnlike", fn := fun _ => fun
  | [d1, d2, d3] => { results := [.lit (.bool false)], args := [d1, d2, d3] }
  | _ => none }
def PadUnlikeWrongFalsely : Prop := padUnlikeRow.holds Try.pinned (OpenSpec.ofChange padUnlikeWrong)

/- THE SECOND FORM. 'bulk': how many values and letters a reading holds, each counted each time it is reached (what is shared counts as often as it is met; a slice's spare places count too). A statement '..UptoSaid' is the law's where the arguments, and the package variables that the reading takes, are together of bulk at most 1048576: NARROWER than '..Said'. Prove '..Said' where nothing that the law and all that it calls make is longer than what came in: it says more and counts as full. Else prove '..UptoSaid'. A law counts once. -/
mutual
def uptoBulk {H : Type} : DataW H → Nat
  | .lit (.string bytes) => bytes.length + 1
  | .lit _ => 1
  | .nil => 1
  | .ptr d => uptoBulk d + 1
  | .slice elems spare => uptoBulkAll elems + uptoBulkAll spare + 1
  | .agg parts => uptoBulkAll parts + 1
  | .iface _ d => uptoBulk d + 1
  | .map entries => uptoBulkEntries entries + 1
  | .held _ => 1
def uptoBulkAll {H : Type} : List (DataW H) → Nat
  | [] => 0
  | d :: r => uptoBulk d + uptoBulkAll r
def uptoBulkEntries {H : Type} : List (Lit × DataW H) → Nat
  | [] => 0
  | x :: r => uptoBulkEntry x + uptoBulkEntries r
def uptoBulkEntry {H : Type} : Lit × DataW H → Nat
  | (.string bytes, d) => bytes.length + uptoBulk d + 1
  | (_, d) => uptoBulk d + 1
 end
def uptoSmall : (H : Type) → List (DataW H) → Bool := fun _ ds => decide (uptoBulkAll ds ≤ 1048576)
def OpenSpec.upto (s : _root_.Go.ChangeSpec) : _root_.Go.OpenSpec := { _root_.Go.OpenSpec.ofChange s with cond := some uptoSmall }

/-- 'bastionlaw02.AesBlocks', WHERE WHAT IT READS IS OF BULK AT MOST 1048576: true; the input reads as it did. -/
def aesBlocksUptoRow : OpenClaim := { program := "ytfffjdfegnmejaa", sum := "c386f91b843c880f2d023c58e13e911365c748e9b740c0cfb245dd93bb5ae281", func := "bastion/bastionlaw02.AesBlocks", spec := "aesBlocks", plainKeys := false, apart := false, narrowed := true }
def AesBlocksUptoSaid : Prop := aesBlocksUptoRow.holds Try.pinned (OpenSpec.upto aesBlocksSpec)

/-- 'bastionlaw12.PadLines', WHERE WHAT IT READS IS OF BULK AT MOST 1048576: true; the input reads as it did. -/
def padLinesUptoRow : OpenClaim := { program := "ytfffjdfegnmejaa", sum := "c386f91b843c880f2d023c58e13e911365c748e9b740c0cfb245dd93bb5ae281", func := "bastion/bastionlaw12.PadLines", spec := "padLines", unfollowed := true, recurses := true, plainKeys := false, apart := false, narrowed := true }
def PadLinesUptoSaid : Prop := padLinesUptoRow.holds Try.pinned (OpenSpec.upto padLinesSpec)

/-- 'bastionlaw12.PadBack', WHERE WHAT IT READS IS OF BULK AT MOST 1048576: true; the input reads as it did. -/
def padBackUptoRow : OpenClaim := { program := "ytfffjdfegnmejaa", sum := "c386f91b843c880f2d023c58e13e911365c748e9b740c0cfb245dd93bb5ae281", func := "bastion/bastionlaw12.PadBack", spec := "padBack", unfollowed := true, recurses := true, plainKeys := false, apart := false, narrowed := true }
def PadBackUptoSaid : Prop := padBackUptoRow.holds Try.pinned (OpenSpec.upto padBackSpec)

/-- 'bastionlaw12.PadUnlike', WHERE WHAT IT READS IS OF BULK AT MOST 1048576: true; the input reads as it did. -/
def padUnlikeUptoRow : OpenClaim := { program := "ytfffjdfegnmejaa", sum := "c386f91b843c880f2d023c58e13e911365c748e9b740c0cfb245dd93bb5ae281", func := "bastion/bastionlaw12.PadUnlike", spec := "padUnlike", unfollowed := true, recurses := true, plainKeys := false, apart := false, narrowed := true }
def PadUnlikeUptoSaid : Prop := padUnlikeUptoRow.holds Try.pinned (OpenSpec.upto padUnlikeSpec)

end Rows
end Go.Proofs.Ytfffjdfegnmejaa
