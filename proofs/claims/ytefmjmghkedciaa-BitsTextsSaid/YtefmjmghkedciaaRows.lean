/-
  No cell of these rows narrows 'for every input' (looked for: loops, veiled, ifaces, maps, wideKeys, modest, calm, conditions, laid).
  DERIVED. THE GIVEN ROWS OF THIS SEAT. 10 by the template 'for every input the law returns true; each argument reads behind the call as it read before'; 0 by the template 'total and deterministic' (their statements: YtefmjmghkedciaaTotals.lean).
  GIVEN WITH THE SEED: the statements are not yours to turn. If you find one false, say at which input.
  Laid BY PROGRAM, IN A SANDBOX (cutbox-rows.mjs): the forced cells as the released guide's own fill.sh prints them over the translation a3c3c44d9e5555a1… (all of the seat's roots in one cut). By AI agents, Wed Nov 11 2026. No macro, syntax, notation, axiom, sorry.
-/
import Derived.Test.YtefmjmghkedciaaChecked
import GoSem.Claim
import GoSem.ClaimJoined
import GoSem.ClaimMapViews
import Derived.JoinedTies
import Derived.KernelRfl
namespace Go.Proofs.Ytefmjmghkedciaa
/- THE CELL 'sum', in the pinned program and in every row, IS THE sha256 OF THE DUMP (.gsa) THAT YtefmjmghkedciaaProg.lean LOADS. Nothing in Lean hashes anything: it is a label: what it is worth is what the hold of that sum in a sandbox is worth. -/
noncomputable def Try.pinned : Pinned := { name := "ytefmjmghkedciaa", sum := "a3c3c44d9e5555a1d275528105d1c960dcd8381d0d07317bcfd3a312ddc794ca", checked := Try.checked }
namespace Rows
def none {H : Type} : Left H := { results := [], args := [] }

/-- 'bastionlaw01.BitsJoins': WHATEVER THE INPUT: true; the input reads as it did. -/
def bitsJoinsSpec : ChangeSpec := { name := "bitsJoins", fn := fun _ => fun
  | [d1, d2] => { results := [.lit (.bool true)], args := [d1, d2] }
  | _ => none }
def bitsJoinsRow : OpenClaim := { program := "ytefmjmghkedciaa", sum := "a3c3c44d9e5555a1d275528105d1c960dcd8381d0d07317bcfd3a312ddc794ca", func := "bastion/bastionlaw01.BitsJoins", spec := "bitsJoins", plainKeys := false, apart := false }
def BitsJoinsSaid : Prop := bitsJoinsRow.holds Try.pinned (OpenSpec.ofChange bitsJoinsSpec)

/-- ITS FALSE NEIGHBOUR: 'it returns false'. Refute it at one input. -/
def bitsJoinsWrong : ChangeSpec := { name := "bitsJoins", fn := fun _ => fun
  | [d1, d2] => { results := [.lit (.bool false)], args := [d1, d2] }
  | _ => none }
def BitsJoinsWrongFalsely : Prop := bitsJoinsRow.holds Try.pinned (OpenSpec.ofChange bitsJoinsWrong)

/-- 'bastionlaw01.BitsTexts': WHATEVER THE INPUT: true; the input reads as it did. -/
def bitsTextsSpec : ChangeSpec := { name := "bitsTexts", fn := fun _ => fun
  | [d1, d2, d3] => { results := [.lit (.bool true)], args := [d1, d2, d3] }
  | _ => none }
def bitsTextsRow : OpenClaim := { program := "ytefmjmghkedciaa", sum := "a3c3c44d9e5555a1d275528105d1c960dcd8381d0d07317bcfd3a312ddc794ca", func := "bastion/bastionlaw01.BitsTexts", spec := "bitsTexts", plainKeys := false, apart := false }
def BitsTextsSaid : Prop := bitsTextsRow.holds Try.pinned (OpenSpec.ofChange bitsTextsSpec)

/-- ITS FALSE NEIGHBOUR: 'it returns false'. Refute it at one input. -/
def bitsTextsWrong : ChangeSpec := { name := "bitsTexts", fn := fun _ => fun
  | [d1, d2, d3] => { results := [.lit (.bool false)], args := [d1, d2, d3] }
  | _ => none }
def BitsTextsWrongFalsely : Prop := bitsTextsRow.holds Try.pinned (OpenSpec.ofChange bitsTextsWrong)

/-- 'bastionlaw02.AesBytes': WHATEVER THE INPUT: true; the input reads as it did. -/
def aesBytesSpec : ChangeSpec := { name := "aesBytes", fn := fun _ => fun
  | [d1, d2] => { results := [.lit (.bool true)], args := [d1, d2] }
  | _ => none }
def aesBytesRow : OpenClaim := { program := "ytefmjmghkedciaa", sum := "a3c3c44d9e5555a1d275528105d1c960dcd8381d0d07317bcfd3a312ddc794ca", func := "bastion/bastionlaw02.AesBytes", spec := "aesBytes", plainKeys := false, apart := false }
def AesBytesSaid : Prop := aesBytesRow.holds Try.pinned (OpenSpec.ofChange aesBytesSpec)

/-- ITS FALSE NEIGHBOUR: 'it returns false'. Refute it at one input. -/
def aesBytesWrong : ChangeSpec := { name := "aesBytes", fn := fun _ => fun
  | [d1, d2] => { results := [.lit (.bool false)], args := [d1, d2] }
  | _ => none }
def AesBytesWrongFalsely : Prop := aesBytesRow.holds Try.pinned (OpenSpec.ofChange aesBytesWrong)

/-- 'bastionlaw02.AesField': WHATEVER THE INPUT: true; the input reads as it did. -/
def aesFieldSpec : ChangeSpec := { name := "aesField", fn := fun _ => fun
  | [d1, d2, d3] => { results := [.lit (.bool true)], args := [d1, d2, d3] }
  | _ => none }
def aesFieldRow : OpenClaim := { program := "ytefmjmghkedciaa", sum := "a3c3c44d9e5555a1d275528105d1c960dcd8381d0d07317bcfd3a312ddc794ca", func := "bastion/bastionlaw02.AesField", spec := "aesField", plainKeys := false, apart := false }
def AesFieldSaid : Prop := aesFieldRow.holds Try.pinned (OpenSpec.ofChange aesFieldSpec)

/-- ITS FALSE NEIGHBOUR: 'it returns false'. Refute it at one input. -/
def aesFieldWrong : ChangeSpec := { name := "aesField", fn := fun _ => fun
  | [d1, d2, d3] => { results := [.lit (.bool false)], args := [d1, d2, d3] }
  | _ => none }
def AesFieldWrongFalsely : Prop := aesFieldRow.holds Try.pinned (OpenSpec.ofChange aesFieldWrong)

/-- 'bastionlaw02.AesUnlike': WHATEVER THE INPUT: true; the input reads as it did. -/
def aesUnlikeSpec : ChangeSpec := { name := "aesUnlike", fn := fun _ => fun
  | [d1, d2, d3] => { results := [.lit (.bool true)], args := [d1, d2, d3] }
  | _ => none }
def aesUnlikeRow : OpenClaim := { program := "ytefmjmghkedciaa", sum := "a3c3c44d9e5555a1d275528105d1c960dcd8381d0d07317bcfd3a312ddc794ca", func := "bastion/bastionlaw02.AesUnlike", spec := "aesUnlike", plainKeys := false, apart := false }
def AesUnlikeSaid : Prop := aesUnlikeRow.holds Try.pinned (OpenSpec.ofChange aesUnlikeSpec)

/-- ITS FALSE NEIGHBOUR: 'it returns false'. Refute it at one input. -/
def aesUnlikeWrong : ChangeSpec := { name := "aesUnlike", fn := fun _ => fun
  | [d1, d2, d3] => { results := [.lit (.bool false)], args := [d1, d2, d3] }
  | _ => none }
def AesUnlikeWrongFalsely : Prop := aesUnlikeRow.holds Try.pinned (OpenSpec.ofChange aesUnlikeWrong)

/-- 'bastionlaw02.AesBlocks': WHATEVER THE INPUT: true; the input reads as it did. -/
def aesBlocksSpec : ChangeSpec := { name := "aesBlocks", fn := fun _ => fun
  | [d1, d2] => { results := [.lit (.bool true)], args := [d1, d2] }
  | _ => none }
def aesBlocksRow : OpenClaim := { program := "ytefmjmghkedciaa", sum := "a3c3c44d9e5555a1d275528105d1c960dcd8381d0d07317bcfd3a312ddc794ca", func := "bastion/bastionlaw02.AesBlocks", spec := "aesBlocks", plainKeys := false, apart := false }
def AesBlocksSaid : Prop := aesBlocksRow.holds Try.pinned (OpenSpec.ofChange aesBlocksSpec)

/-- ITS FALSE NEIGHBOUR: 'it returns false'. Refute it at one input. -/
def aesBlocksWrong : ChangeSpec := { name := "aesBlocks", fn := fun _ => fun
  | [d1, d2] => { results := [.lit (.bool false)], args := [d1, d2] }
  | _ => none }
def AesBlocksWrongFalsely : Prop := aesBlocksRow.holds Try.pinned (OpenSpec.ofChange aesBlocksWrong)

/-- 'bastionlaw02.AesKeys': WHATEVER THE INPUT: true; the input reads as it did. -/
def aesKeysSpec : ChangeSpec := { name := "aesKeys", fn := fun _ => fun
  | [d1, d2] => { results := [.lit (.bool true)], args := [d1, d2] }
  | _ => none }
def aesKeysRow : OpenClaim := { program := "ytefmjmghkedciaa", sum := "a3c3c44d9e5555a1d275528105d1c960dcd8381d0d07317bcfd3a312ddc794ca", func := "bastion/bastionlaw02.AesKeys", spec := "aesKeys", plainKeys := false, apart := false }
def AesKeysSaid : Prop := aesKeysRow.holds Try.pinned (OpenSpec.ofChange aesKeysSpec)

/-- ITS FALSE NEIGHBOUR: 'it returns false'. Refute it at one input. -/
def aesKeysWrong : ChangeSpec := { name := "aesKeys", fn := fun _ => fun
  | [d1, d2] => { results := [.lit (.bool false)], args := [d1, d2] }
  | _ => none }
def AesKeysWrongFalsely : Prop := aesKeysRow.holds Try.pinned (OpenSpec.ofChange aesKeysWrong)

/-- 'bastionlaw12.PadLines': WHATEVER THE INPUT: true; the input reads as it did. -/
def padLinesSpec : ChangeSpec := { name := "padLines", fn := fun _ => fun
  | [d1, d2] => { results := [.lit (.bool true)], args := [d1, d2] }
  | _ => none }
def padLinesRow : OpenClaim := { program := "ytefmjmghkedciaa", sum := "a3c3c44d9e5555a1d275528105d1c960dcd8381d0d07317bcfd3a312ddc794ca", func := "bastion/bastionlaw12.PadLines", spec := "padLines", unfollowed := true, recurses := true, plainKeys := false, apart := false }
def PadLinesSaid : Prop := padLinesRow.holds Try.pinned (OpenSpec.ofChange padLinesSpec)

/-- ITS FALSE NEIGHBOUR: 'it returns false'. Refute it at one input. -/
def padLinesWrong : ChangeSpec := { name := "padLines", fn := fun _ => fun
  | [d1, d2] => { results := [.lit (.bool false)], args := [d1, d2] }
  | _ => none }
def PadLinesWrongFalsely : Prop := padLinesRow.holds Try.pinned (OpenSpec.ofChange padLinesWrong)

/-- 'bastionlaw12.PadBack': WHATEVER THE INPUT: true; the input reads as it did. -/
def padBackSpec : ChangeSpec := { name := "padBack", fn := fun _ => fun
  | [d1, d2] => { results := [.lit (.bool true)], args := [d1, d2] }
  | _ => none }
def padBackRow : OpenClaim := { program := "ytefmjmghkedciaa", sum := "a3c3c44d9e5555a1d275528105d1c960dcd8381d0d07317bcfd3a312ddc794ca", func := "bastion/bastionlaw12.PadBack", spec := "padBack", unfollowed := true, recurses := true, plainKeys := false, apart := false }
def PadBackSaid : Prop := padBackRow.holds Try.pinned (OpenSpec.ofChange padBackSpec)

/-- ITS FALSE NEIGHBOUR: 'it returns false'. Refute it at one input. -/
def padBackWrong : ChangeSpec := { name := "padBack", fn := fun _ => fun
  | [d1, d2] => { results := [.lit (.bool false)], args := [d1, d2] }
  | _ => none }
def PadBackWrongFalsely : Prop := padBackRow.holds Try.pinned (OpenSpec.ofChange padBackWrong)

/-- 'bastionlaw12.PadUnlike': WHATEVER THE INPUT: true; the input reads as it did. -/
def padUnlikeSpec : ChangeSpec := { name := "padUnlike", fn := fun _ => fun
  | [d1, d2, d3] => { results := [.lit (.bool true)], args := [d1, d2, d3] }
  | _ => none }
def padUnlikeRow : OpenClaim := { program := "ytefmjmghkedciaa", sum := "a3c3c44d9e5555a1d275528105d1c960dcd8381d0d07317bcfd3a312ddc794ca", func := "bastion/bastionlaw12.PadUnlike", spec := "padUnlike", unfollowed := true, recurses := true, plainKeys := false, apart := false }
def PadUnlikeSaid : Prop := padUnlikeRow.holds Try.pinned (OpenSpec.ofChange padUnlikeSpec)

/-- ITS FALSE NEIGHBOUR: 'it returns false'. Refute it at one input. -/
def padUnlikeWrong : ChangeSpec := { name := "padUnlike", fn := fun _ => fun
  | [d1, d2, d3] => { results := [.lit (.bool false)], args := [d1, d2, d3] }
  | _ => none }
def PadUnlikeWrongFalsely : Prop := padUnlikeRow.holds Try.pinned (OpenSpec.ofChange padUnlikeWrong)

/- THE SECOND FORM. 'bulk': how many values and letters a reading holds, each counted each time it is reached (what is shared counts as often as it is met; a slice's spare places count too). A statement '..UptoSaid' is the law's where the arguments, and the package variables that the reading takes, are together of bulk at most 1048576: NARROWER than '..Said'. Prove '..Said' where nothing that the law and all that it calls make is longer than what came in: it says more and counts as full. Else prove '..UptoSaid'. A law counts once. -/
mutual
def uptoBulk {H : Type} : DataW H → Nat
  | .lit (.string bytes) => bytes.length + 1
  | .lit _ => 1
  | .nil => 1
  | .ptr d => uptoBulk d + 1
  | .slice elems spare => uptoBulkAll elems + uptoBulkAll spare + 1
  | .agg parts => uptoBulkAll parts + 1
  | .iface _ d => uptoBulk d + 1
  | .map entries => uptoBulkEntries entries + 1
  | .held _ => 1
def uptoBulkAll {H : Type} : List (DataW H) → Nat
  | [] => 0
  | d :: r => uptoBulk d + uptoBulkAll r
def uptoBulkEntries {H : Type} : List (Lit × DataW H) → Nat
  | [] => 0
  | x :: r => uptoBulkEntry x + uptoBulkEntries r
def uptoBulkEntry {H : Type} : Lit × DataW H → Nat
  | (.string bytes, d) => bytes.length + uptoBulk d + 1
  | (_, d) => uptoBulk d + 1
 end
def uptoSmall : (H : Type) → List (DataW H) → Bool := fun _ ds => decide (uptoBulkAll ds ≤ 1048576)
def OpenSpec.upto (s : _root_.Go.ChangeSpec) : _root_.Go.OpenSpec := { _root_.Go.OpenSpec.ofChange s with cond := some uptoSmall }

/-- 'bastionlaw01.BitsJoins', WHERE WHAT IT READS IS OF BULK AT MOST 1048576: true; the input reads as it did. -/
def bitsJoinsUptoRow : OpenClaim := { program := "ytefmjmghkedciaa", sum := "a3c3c44d9e5555a1d275528105d1c960dcd8381d0d07317bcfd3a312ddc794ca", func := "bastion/bastionlaw01.BitsJoins", spec := "bitsJoins", plainKeys := false, apart := false, narrowed := true }
def BitsJoinsUptoSaid : Prop := bitsJoinsUptoRow.holds Try.pinned (OpenSpec.upto bitsJoinsSpec)

/-- 'bastionlaw01.BitsTexts', WHERE WHAT IT READS IS OF BULK AT MOST 1048576: true; the input reads as it did. -/
def bitsTextsUptoRow : OpenClaim := { program := "ytefmjmghkedciaa", sum := "a3c3c44d9e5555a1d275528105d1c960dcd8381d0d07317bcfd3a312ddc794ca", func := "bastion/bastionlaw01.BitsTexts", spec := "bitsTexts", plainKeys := false, apart := false, narrowed := true }
def BitsTextsUptoSaid : Prop := bitsTextsUptoRow.holds Try.pinned (OpenSpec.upto bitsTextsSpec)

/-- 'bastionlaw02.AesBytes', WHERE WHAT IT READS IS OF BULK AT MOST 1048576: true; the input reads as it did. -/
def aesBytesUptoRow : OpenClaim := { program := "ytefmjmghkedciaa", sum := "a3c3c44d9e5555a1d275528105d1c960dcd8381d0d07317bcfd3a312ddc794ca", func := "bastion/bastionlaw02.AesBytes", spec := "aesBytes", plainKeys := false, apart := false, narrowed := true }
def AesBytesUptoSaid : Prop := aesBytesUptoRow.holds Try.pinned (OpenSpec.upto aesBytesSpec)

/-- 'bastionlaw02.AesField', WHERE WHAT IT READS IS OF BULK AT MOST 1048576: true; the input reads as it did. -/
def aesFieldUptoRow : OpenClaim := { program := "ytefmjmghkedciaa", sum := "a3c3c44d9e5555a1d275528105d1c960dcd8381d0d07317bcfd3a312ddc794ca", func := "bastion/bastionlaw02.AesField", spec := "aesField", plainKeys := false, apart := false, narrowed := true }
def AesFieldUptoSaid : Prop := aesFieldUptoRow.holds Try.pinned (OpenSpec.upto aesFieldSpec)

/-- 'bastionlaw02.AesUnlike', WHERE WHAT IT READS IS OF BULK AT MOST 1048576: true; the input reads as it did. -/
def aesUnlikeUptoRow : OpenClaim := { program := "ytefmjmghkedciaa", sum := "a3c3c44d9e5555a1d275528105d1c960dcd8381d0d07317bcfd3a312ddc794ca", func := "bastion/bastionlaw02.AesUnlike", spec := "aesUnlike", plainKeys := false, apart := false, narrowed := true }
def AesUnlikeUptoSaid : Prop := aesUnlikeUptoRow.holds Try.pinned (OpenSpec.upto aesUnlikeSpec)

/-- 'bastionlaw02.AesBlocks', WHERE WHAT IT READS IS OF BULK AT MOST 1048576: true; the input reads as it did. -/
def aesBlocksUptoRow : OpenClaim := { program := "ytefmjmghkedciaa", sum := "a3c3c44d9e5555a1d275528105d1c960dcd8381d0d07317bcfd3a312ddc794ca", func := "bastion/bastionlaw02.AesBlocks", spec := "aesBlocks", plainKeys := false, apart := false, narrowed := true }
def AesBlocksUptoSaid : Prop := aesBlocksUptoRow.holds Try.pinned (OpenSpec.upto aesBlocksSpec)

/-- 'bastionlaw02.AesKeys', WHERE WHAT IT READS IS OF BULK AT MOST 1048576: true; the input reads as it did. -/
def aesKeysUptoRow : OpenClaim := { program := "ytefmjmghkedciaa", sum := "a3c3c44d9e5555a1d275528105d1c960dcd8381d0d07317bcfd3a312ddc794ca", func := "bastion/bastionlaw02.AesKeys", spec := "aesKeys", plainKeys := false, apart := false, narrowed := true }
def AesKeysUptoSaid : Prop := aesKeysUptoRow.holds Try.pinned (OpenSpec.upto aesKeysSpec)

/-- 'bastionlaw12.PadLines', WHERE WHAT IT READS IS OF BULK AT MOST 1048576: true; the input reads as it did. -/
def padLinesUptoRow : OpenClaim := { program := "ytefmjmghkedciaa", sum := "a3c3c44d9e5555a1d275528105d1c960dcd8381d0d07317bcfd3a312ddc794ca", func := "bastion/bastionlaw12.PadLines", spec := "padLines", unfollowed := true, recurses := true, plainKeys := false, apart := false, narrowed := true }
def PadLinesUptoSaid : Prop := padLinesUptoRow.holds Try.pinned (OpenSpec.upto padLinesSpec)

/-- 'bastionlaw12.PadBack', WHERE WHAT IT READS IS OF BULK AT MOST 1048576: true; the input reads as it did. -/
def padBackUptoRow : OpenClaim := { program := "ytefmjmghkedciaa", sum := "a3c3c44d9e5555a1d275528105d1c960dcd8381d0d07317bcfd3a312ddc794ca", func := "bastion/bastionlaw12.PadBack", spec := "padBack", unfollowed := true, recurses := true, plainKeys := false, apart := false, narrowed := true }
def PadBackUptoSaid : Prop := padBackUptoRow.holds Try.pinned (OpenSpec.upto padBackSpec)

/-- 'bastionlaw12.PadUnlike', WHERE WHAT IT READS IS OF BULK AT MOST 1048576: true; the input reads as it did. -/
def padUnlikeUptoRow : OpenClaim := { program := "ytefmjmghkedciaa", sum := "a3c3c44d9e5555a1d275528105d1c960dcd8381d0d07317bcfd3a312ddc794ca", func := "bastion/bastionlaw12.PadUnlike", spec := "padUnlike", unfollowed := true, recurses := true, plainKeys := false, apart := false, narrowed := true }
def PadUnlikeUptoSaid : Prop := padUnlikeUptoRow.holds Try.pinned (OpenSpec.upto padUnlikeSpec)

end Rows
end Go.Proofs.Ytefmjmghkedciaa
