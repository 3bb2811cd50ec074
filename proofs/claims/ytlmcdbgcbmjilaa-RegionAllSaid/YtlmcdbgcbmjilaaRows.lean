/-
  No cell of these rows narrows 'for every input' (looked for: loops, veiled, ifaces, maps, wideKeys, modest, calm, conditions, laid).
  DERIVED. THE GIVEN ROWS OF THIS SEAT. 37 by the template 'for every input the law returns true; each argument reads behind the call as it read before'; 0 by the template 'total and deterministic' (their statements: YtlmcdbgcbmjilaaTotals.lean).
  GIVEN WITH THE SEED: the statements are not yours to turn. If you find one false, say at which input.
  Laid BY PROGRAM, IN A SANDBOX (cutbox-rows.mjs): the forced cells as the released guide's own fill.sh prints them over the translation e7714d520310020f… (all of the seat's roots in one cut). By AI agents, Wed Nov 11 2026. No macro, syntax, notation, axiom, sorry.
-/
import Derived.Test.YtlmcdbgcbmjilaaChecked
import GoSem.Claim
import GoSem.ClaimJoined
import GoSem.ClaimMapViews
import Derived.JoinedTies
import Derived.KernelRfl
namespace Go.Proofs.Ytlmcdbgcbmjilaa
/- THE CELL 'sum', in the pinned program and in every row, IS THE sha256 OF THE DUMP (.gsa) THAT YtlmcdbgcbmjilaaProg.lean LOADS. Nothing in Lean hashes anything: it is a label: what it is worth is what the hold of that sum in a sandbox is worth. -/
noncomputable def Try.pinned : Pinned := { name := "ytlmcdbgcbmjilaa", sum := "e7714d520310020fa7c0c309ce38c02d017d3582c96ca0b3bfa50e503470dad8", checked := Try.checked }
namespace Rows
def none {H : Type} : Left H := { results := [], args := [] }

/-- 'bastionlaw01.BitsNumbers': WHATEVER THE INPUT: true; the input reads as it did. -/
def bitsNumbersSpec : ChangeSpec := { name := "bitsNumbers", fn := fun _ => fun
  | [d1, d2, d3] => { results := [.lit (.bool true)], args := [d1, d2, d3] }
  | _ => none }
def bitsNumbersRow : OpenClaim := { program := "ytlmcdbgcbmjilaa", sum := "e7714d520310020fa7c0c309ce38c02d017d3582c96ca0b3bfa50e503470dad8", func := "bastion/bastionlaw01.BitsNumbers", spec := "bitsNumbers", apart := false }
def BitsNumbersSaid : Prop := bitsNumbersRow.holds Try.pinned (OpenSpec.ofChange bitsNumbersSpec)

/-- ITS FALSE NEIGHBOUR: 'it returns false'. Refute it at one input. -/
def bitsNumbersWrong : ChangeSpec := { name := "bitsNumbers", fn := fun _ => fun
  | [d1, d2, d3] => { results := [.lit (.bool false)], args := [d1, d2, d3] }
  | _ => none }
def BitsNumbersWrongFalsely : Prop := bitsNumbersRow.holds Try.pinned (OpenSpec.ofChange bitsNumbersWrong)

/-- 'bastionlaw01.BitsSizes': WHATEVER THE INPUT: true; the input reads as it did. -/
def bitsSizesSpec : ChangeSpec := { name := "bitsSizes", fn := fun _ => fun
  | [d1, d2, d3] => { results := [.lit (.bool true)], args := [d1, d2, d3] }
  | _ => none }
def bitsSizesRow : OpenClaim := { program := "ytlmcdbgcbmjilaa", sum := "e7714d520310020fa7c0c309ce38c02d017d3582c96ca0b3bfa50e503470dad8", func := "bastion/bastionlaw01.BitsSizes", spec := "bitsSizes", apart := false }
def BitsSizesSaid : Prop := bitsSizesRow.holds Try.pinned (OpenSpec.ofChange bitsSizesSpec)

/-- ITS FALSE NEIGHBOUR: 'it returns false'. Refute it at one input. -/
def bitsSizesWrong : ChangeSpec := { name := "bitsSizes", fn := fun _ => fun
  | [d1, d2, d3] => { results := [.lit (.bool false)], args := [d1, d2, d3] }
  | _ => none }
def BitsSizesWrongFalsely : Prop := bitsSizesRow.holds Try.pinned (OpenSpec.ofChange bitsSizesWrong)

/-- 'bastionlaw01.BitsBeside': WHATEVER THE INPUT: true; the input reads as it did. -/
def bitsBesideSpec : ChangeSpec := { name := "bitsBeside", fn := fun _ => fun
  | [d1, d2, d3, d4, d5, d6] => { results := [.lit (.bool true)], args := [d1, d2, d3, d4, d5, d6] }
  | _ => none }
def bitsBesideRow : OpenClaim := { program := "ytlmcdbgcbmjilaa", sum := "e7714d520310020fa7c0c309ce38c02d017d3582c96ca0b3bfa50e503470dad8", func := "bastion/bastionlaw01.BitsBeside", spec := "bitsBeside", apart := false }
def BitsBesideSaid : Prop := bitsBesideRow.holds Try.pinned (OpenSpec.ofChange bitsBesideSpec)

/-- ITS FALSE NEIGHBOUR: 'it returns false'. Refute it at one input. -/
def bitsBesideWrong : ChangeSpec := { name := "bitsBeside", fn := fun _ => fun
  | [d1, d2, d3, d4, d5, d6] => { results := [.lit (.bool false)], args := [d1, d2, d3, d4, d5, d6] }
  | _ => none }
def BitsBesideWrongFalsely : Prop := bitsBesideRow.holds Try.pinned (OpenSpec.ofChange bitsBesideWrong)

/-- 'bastionlaw01.BitsWhole': WHATEVER THE INPUT: true; the input reads as it did. -/
def bitsWholeSpec : ChangeSpec := { name := "bitsWhole", fn := fun _ => fun
  | [d1, d2, d3] => { results := [.lit (.bool true)], args := [d1, d2, d3] }
  | _ => none }
def bitsWholeRow : OpenClaim := { program := "ytlmcdbgcbmjilaa", sum := "e7714d520310020fa7c0c309ce38c02d017d3582c96ca0b3bfa50e503470dad8", func := "bastion/bastionlaw01.BitsWhole", spec := "bitsWhole", apart := false }
def BitsWholeSaid : Prop := bitsWholeRow.holds Try.pinned (OpenSpec.ofChange bitsWholeSpec)

/-- ITS FALSE NEIGHBOUR: 'it returns false'. Refute it at one input. -/
def bitsWholeWrong : ChangeSpec := { name := "bitsWhole", fn := fun _ => fun
  | [d1, d2, d3] => { results := [.lit (.bool false)], args := [d1, d2, d3] }
  | _ => none }
def BitsWholeWrongFalsely : Prop := bitsWholeRow.holds Try.pinned (OpenSpec.ofChange bitsWholeWrong)

/-- 'bastionlaw05.PlanChecks': WHATEVER THE INPUT: true; the input reads as it did. -/
def planChecksSpec : ChangeSpec := { name := "planChecks", fn := fun _ => fun
  | [d1, d2] => { results := [.lit (.bool true)], args := [d1, d2] }
  | _ => none }
def planChecksRow : OpenClaim := { program := "ytlmcdbgcbmjilaa", sum := "e7714d520310020fa7c0c309ce38c02d017d3582c96ca0b3bfa50e503470dad8", func := "bastion/bastionlaw05.PlanChecks", spec := "planChecks", apart := false }
def PlanChecksSaid : Prop := planChecksRow.holds Try.pinned (OpenSpec.ofChange planChecksSpec)

/-- ITS FALSE NEIGHBOUR: 'it returns false'. Refute it at one input. -/
def planChecksWrong : ChangeSpec := { name := "planChecks", fn := fun _ => fun
  | [d1, d2] => { results := [.lit (.bool false)], args := [d1, d2] }
  | _ => none }
def PlanChecksWrongFalsely : Prop := planChecksRow.holds Try.pinned (OpenSpec.ofChange planChecksWrong)

/-- 'bastionlaw16.WordDoes': WHATEVER THE INPUT: true; the input reads as it did. -/
def wordDoesSpec : ChangeSpec := { name := "wordDoes", fn := fun _ => fun
  | [d1, d2] => { results := [.lit (.bool true)], args := [d1, d2] }
  | _ => none }
def wordDoesRow : OpenClaim := { program := "ytlmcdbgcbmjilaa", sum := "e7714d520310020fa7c0c309ce38c02d017d3582c96ca0b3bfa50e503470dad8", func := "bastion/bastionlaw16.WordDoes", spec := "wordDoes", apart := false }
def WordDoesSaid : Prop := wordDoesRow.holds Try.pinned (OpenSpec.ofChange wordDoesSpec)

/-- ITS FALSE NEIGHBOUR: 'it returns false'. Refute it at one input. -/
def wordDoesWrong : ChangeSpec := { name := "wordDoes", fn := fun _ => fun
  | [d1, d2] => { results := [.lit (.bool false)], args := [d1, d2] }
  | _ => none }
def WordDoesWrongFalsely : Prop := wordDoesRow.holds Try.pinned (OpenSpec.ofChange wordDoesWrong)

/-- 'bastionlaw16.WordPlain': WHATEVER THE INPUT: true; the input reads as it did. -/
def wordPlainSpec : ChangeSpec := { name := "wordPlain", fn := fun _ => fun
  | [d1, d2, d3, d4, d5] => { results := [.lit (.bool true)], args := [d1, d2, d3, d4, d5] }
  | _ => none }
def wordPlainRow : OpenClaim := { program := "ytlmcdbgcbmjilaa", sum := "e7714d520310020fa7c0c309ce38c02d017d3582c96ca0b3bfa50e503470dad8", func := "bastion/bastionlaw16.WordPlain", spec := "wordPlain", apart := false }
def WordPlainSaid : Prop := wordPlainRow.holds Try.pinned (OpenSpec.ofChange wordPlainSpec)

/-- ITS FALSE NEIGHBOUR: 'it returns false'. Refute it at one input. -/
def wordPlainWrong : ChangeSpec := { name := "wordPlain", fn := fun _ => fun
  | [d1, d2, d3, d4, d5] => { results := [.lit (.bool false)], args := [d1, d2, d3, d4, d5] }
  | _ => none }
def WordPlainWrongFalsely : Prop := wordPlainRow.holds Try.pinned (OpenSpec.ofChange wordPlainWrong)

/-- 'bastionlaw16.WordApart': WHATEVER THE INPUT: true; the input reads as it did. -/
def wordApartSpec : ChangeSpec := { name := "wordApart", fn := fun _ => fun
  | [d1, d2] => { results := [.lit (.bool true)], args := [d1, d2] }
  | _ => none }
def wordApartRow : OpenClaim := { program := "ytlmcdbgcbmjilaa", sum := "e7714d520310020fa7c0c309ce38c02d017d3582c96ca0b3bfa50e503470dad8", func := "bastion/bastionlaw16.WordApart", spec := "wordApart", apart := false }
def WordApartSaid : Prop := wordApartRow.holds Try.pinned (OpenSpec.ofChange wordApartSpec)

/-- ITS FALSE NEIGHBOUR: 'it returns false'. Refute it at one input. -/
def wordApartWrong : ChangeSpec := { name := "wordApart", fn := fun _ => fun
  | [d1, d2] => { results := [.lit (.bool false)], args := [d1, d2] }
  | _ => none }
def WordApartWrongFalsely : Prop := wordApartRow.holds Try.pinned (OpenSpec.ofChange wordApartWrong)

/-- 'bastionlaw05.PlanTree': WHATEVER THE INPUT: true; the input reads as it did. -/
def planTreeSpec : ChangeSpec := { name := "planTree", fn := fun _ => fun
  | [d] => { results := [.lit (.bool true)], args := [d] }
  | _ => none }
def planTreeRow : OpenClaim := { program := "ytlmcdbgcbmjilaa", sum := "e7714d520310020fa7c0c309ce38c02d017d3582c96ca0b3bfa50e503470dad8", func := "bastion/bastionlaw05.PlanTree", spec := "planTree", apart := false }
def PlanTreeSaid : Prop := planTreeRow.holds Try.pinned (OpenSpec.ofChange planTreeSpec)

/-- ITS FALSE NEIGHBOUR: 'it returns false'. Refute it at one input. -/
def planTreeWrong : ChangeSpec := { name := "planTree", fn := fun _ => fun
  | [d] => { results := [.lit (.bool false)], args := [d] }
  | _ => none }
def PlanTreeWrongFalsely : Prop := planTreeRow.holds Try.pinned (OpenSpec.ofChange planTreeWrong)

/-- 'bastionlaw05.PlanFits': WHATEVER THE INPUT: true; the input reads as it did. -/
def planFitsSpec : ChangeSpec := { name := "planFits", fn := fun _ => fun
  | [d] => { results := [.lit (.bool true)], args := [d] }
  | _ => none }
def planFitsRow : OpenClaim := { program := "ytlmcdbgcbmjilaa", sum := "e7714d520310020fa7c0c309ce38c02d017d3582c96ca0b3bfa50e503470dad8", func := "bastion/bastionlaw05.PlanFits", spec := "planFits", apart := false }
def PlanFitsSaid : Prop := planFitsRow.holds Try.pinned (OpenSpec.ofChange planFitsSpec)

/-- ITS FALSE NEIGHBOUR: 'it returns false'. Refute it at one input. -/
def planFitsWrong : ChangeSpec := { name := "planFits", fn := fun _ => fun
  | [d] => { results := [.lit (.bool false)], args := [d] }
  | _ => none }
def PlanFitsWrongFalsely : Prop := planFitsRow.holds Try.pinned (OpenSpec.ofChange planFitsWrong)

/-- 'bastionlaw05.PlanRoom': WHATEVER THE INPUT: true; the input reads as it did. -/
def planRoomSpec : ChangeSpec := { name := "planRoom", fn := fun _ => fun
  | [d] => { results := [.lit (.bool true)], args := [d] }
  | _ => none }
def planRoomRow : OpenClaim := { program := "ytlmcdbgcbmjilaa", sum := "e7714d520310020fa7c0c309ce38c02d017d3582c96ca0b3bfa50e503470dad8", func := "bastion/bastionlaw05.PlanRoom", spec := "planRoom", apart := false }
def PlanRoomSaid : Prop := planRoomRow.holds Try.pinned (OpenSpec.ofChange planRoomSpec)

/-- ITS FALSE NEIGHBOUR: 'it returns false'. Refute it at one input. -/
def planRoomWrong : ChangeSpec := { name := "planRoom", fn := fun _ => fun
  | [d] => { results := [.lit (.bool false)], args := [d] }
  | _ => none }
def PlanRoomWrongFalsely : Prop := planRoomRow.holds Try.pinned (OpenSpec.ofChange planRoomWrong)

/-- 'bastionlaw06.RegionTree': WHATEVER THE INPUT: true; the input reads as it did. -/
def regionTreeSpec : ChangeSpec := { name := "regionTree", fn := fun _ => fun
  | [d1, d2, d3] => { results := [.lit (.bool true)], args := [d1, d2, d3] }
  | _ => none }
def regionTreeRow : OpenClaim := { program := "ytlmcdbgcbmjilaa", sum := "e7714d520310020fa7c0c309ce38c02d017d3582c96ca0b3bfa50e503470dad8", func := "bastion/bastionlaw06.RegionTree", spec := "regionTree", apart := false }
def RegionTreeSaid : Prop := regionTreeRow.holds Try.pinned (OpenSpec.ofChange regionTreeSpec)

/-- ITS FALSE NEIGHBOUR: 'it returns false'. Refute it at one input. -/
def regionTreeWrong : ChangeSpec := { name := "regionTree", fn := fun _ => fun
  | [d1, d2, d3] => { results := [.lit (.bool false)], args := [d1, d2, d3] }
  | _ => none }
def RegionTreeWrongFalsely : Prop := regionTreeRow.holds Try.pinned (OpenSpec.ofChange regionTreeWrong)

/-- 'bastionlaw06.RegionPages': WHATEVER THE INPUT: true; the input reads as it did. -/
def regionPagesSpec : ChangeSpec := { name := "regionPages", fn := fun _ => fun
  | [d1, d2, d3] => { results := [.lit (.bool true)], args := [d1, d2, d3] }
  | _ => none }
def regionPagesRow : OpenClaim := { program := "ytlmcdbgcbmjilaa", sum := "e7714d520310020fa7c0c309ce38c02d017d3582c96ca0b3bfa50e503470dad8", func := "bastion/bastionlaw06.RegionPages", spec := "regionPages", apart := false }
def RegionPagesSaid : Prop := regionPagesRow.holds Try.pinned (OpenSpec.ofChange regionPagesSpec)

/-- ITS FALSE NEIGHBOUR: 'it returns false'. Refute it at one input. -/
def regionPagesWrong : ChangeSpec := { name := "regionPages", fn := fun _ => fun
  | [d1, d2, d3] => { results := [.lit (.bool false)], args := [d1, d2, d3] }
  | _ => none }
def RegionPagesWrongFalsely : Prop := regionPagesRow.holds Try.pinned (OpenSpec.ofChange regionPagesWrong)

/-- 'bastionlaw11.WaysHolds': WHATEVER THE INPUT: true; the input reads as it did. -/
def waysHoldsSpec : ChangeSpec := { name := "waysHolds", fn := fun _ => fun
  | [d1, d2, d3, d4] => { results := [.lit (.bool true)], args := [d1, d2, d3, d4] }
  | _ => none }
def waysHoldsRow : OpenClaim := { program := "ytlmcdbgcbmjilaa", sum := "e7714d520310020fa7c0c309ce38c02d017d3582c96ca0b3bfa50e503470dad8", func := "bastion/bastionlaw11.WaysHolds", spec := "waysHolds", unfollowed := true, recurses := true, apart := false }
def WaysHoldsSaid : Prop := waysHoldsRow.holds Try.pinned (OpenSpec.ofChange waysHoldsSpec)

/-- ITS FALSE NEIGHBOUR: 'it returns false'. Refute it at one input. -/
def waysHoldsWrong : ChangeSpec := { name := "waysHolds", fn := fun _ => fun
  | [d1, d2, d3, d4] => { results := [.lit (.bool false)], args := [d1, d2, d3, d4] }
  | _ => none }
def WaysHoldsWrongFalsely : Prop := waysHoldsRow.holds Try.pinned (OpenSpec.ofChange waysHoldsWrong)

/-- 'bastionlaw11.WaysApart': WHATEVER THE INPUT: true; the input reads as it did. -/
def waysApartSpec : ChangeSpec := { name := "waysApart", fn := fun _ => fun
  | [d1, d2, d3] => { results := [.lit (.bool true)], args := [d1, d2, d3] }
  | _ => none }
def waysApartRow : OpenClaim := { program := "ytlmcdbgcbmjilaa", sum := "e7714d520310020fa7c0c309ce38c02d017d3582c96ca0b3bfa50e503470dad8", func := "bastion/bastionlaw11.WaysApart", spec := "waysApart", unfollowed := true, recurses := true, apart := false }
def WaysApartSaid : Prop := waysApartRow.holds Try.pinned (OpenSpec.ofChange waysApartSpec)

/-- ITS FALSE NEIGHBOUR: 'it returns false'. Refute it at one input. -/
def waysApartWrong : ChangeSpec := { name := "waysApart", fn := fun _ => fun
  | [d1, d2, d3] => { results := [.lit (.bool false)], args := [d1, d2, d3] }
  | _ => none }
def WaysApartWrongFalsely : Prop := waysApartRow.holds Try.pinned (OpenSpec.ofChange waysApartWrong)

/-- 'bastionlaw06.RegionLines': WHATEVER THE INPUT: true; the input reads as it did. -/
def regionLinesSpec : ChangeSpec := { name := "regionLines", fn := fun _ => fun
  | [d1, d2, d3, d4] => { results := [.lit (.bool true)], args := [d1, d2, d3, d4] }
  | _ => none }
def regionLinesRow : OpenClaim := { program := "ytlmcdbgcbmjilaa", sum := "e7714d520310020fa7c0c309ce38c02d017d3582c96ca0b3bfa50e503470dad8", func := "bastion/bastionlaw06.RegionLines", spec := "regionLines", apart := false }
def RegionLinesSaid : Prop := regionLinesRow.holds Try.pinned (OpenSpec.ofChange regionLinesSpec)

/-- ITS FALSE NEIGHBOUR: 'it returns false'. Refute it at one input. -/
def regionLinesWrong : ChangeSpec := { name := "regionLines", fn := fun _ => fun
  | [d1, d2, d3, d4] => { results := [.lit (.bool false)], args := [d1, d2, d3, d4] }
  | _ => none }
def RegionLinesWrongFalsely : Prop := regionLinesRow.holds Try.pinned (OpenSpec.ofChange regionLinesWrong)

/-- 'bastionlaw06.RegionPlaces': WHATEVER THE INPUT: true; the input reads as it did. -/
def regionPlacesSpec : ChangeSpec := { name := "regionPlaces", fn := fun _ => fun
  | [d1, d2, d3, d4] => { results := [.lit (.bool true)], args := [d1, d2, d3, d4] }
  | _ => none }
def regionPlacesRow : OpenClaim := { program := "ytlmcdbgcbmjilaa", sum := "e7714d520310020fa7c0c309ce38c02d017d3582c96ca0b3bfa50e503470dad8", func := "bastion/bastionlaw06.RegionPlaces", spec := "regionPlaces", apart := false }
def RegionPlacesSaid : Prop := regionPlacesRow.holds Try.pinned (OpenSpec.ofChange regionPlacesSpec)

/-- ITS FALSE NEIGHBOUR: 'it returns false'. Refute it at one input. -/
def regionPlacesWrong : ChangeSpec := { name := "regionPlaces", fn := fun _ => fun
  | [d1, d2, d3, d4] => { results := [.lit (.bool false)], args := [d1, d2, d3, d4] }
  | _ => none }
def RegionPlacesWrongFalsely : Prop := regionPlacesRow.holds Try.pinned (OpenSpec.ofChange regionPlacesWrong)

/-- 'bastionlaw06.RegionAll': WHATEVER THE INPUT: true; the input reads as it did. -/
def regionAllSpec : ChangeSpec := { name := "regionAll", fn := fun _ => fun
  | [d] => { results := [.lit (.bool true)], args := [d] }
  | _ => none }
def regionAllRow : OpenClaim := { program := "ytlmcdbgcbmjilaa", sum := "e7714d520310020fa7c0c309ce38c02d017d3582c96ca0b3bfa50e503470dad8", func := "bastion/bastionlaw06.RegionAll", spec := "regionAll", apart := false }
def RegionAllSaid : Prop := regionAllRow.holds Try.pinned (OpenSpec.ofChange regionAllSpec)

/-- ITS FALSE NEIGHBOUR: 'it returns false'. Refute it at one input. -/
def regionAllWrong : ChangeSpec := { name := "regionAll", fn := fun _ => fun
  | [d] => { results := [.lit (.bool false)], args := [d] }
  | _ => none }
def RegionAllWrongFalsely : Prop := regionAllRow.holds Try.pinned (OpenSpec.ofChange regionAllWrong)

/-- 'bastionlaw07.CodeNext': WHATEVER THE INPUT: true; the input reads as it did. -/
def codeNextSpec : ChangeSpec := { name := "codeNext", fn := fun _ => fun
  | [d1, d2, d3] => { results := [.lit (.bool true)], args := [d1, d2, d3] }
  | _ => none }
def codeNextRow : OpenClaim := { program := "ytlmcdbgcbmjilaa", sum := "e7714d520310020fa7c0c309ce38c02d017d3582c96ca0b3bfa50e503470dad8", func := "bastion/bastionlaw07.CodeNext", spec := "codeNext", unfollowed := true, recurses := true, apart := false }
def CodeNextSaid : Prop := codeNextRow.holds Try.pinned (OpenSpec.ofChange codeNextSpec)

/-- ITS FALSE NEIGHBOUR: 'it returns false'. Refute it at one input. -/
def codeNextWrong : ChangeSpec := { name := "codeNext", fn := fun _ => fun
  | [d1, d2, d3] => { results := [.lit (.bool false)], args := [d1, d2, d3] }
  | _ => none }
def CodeNextWrongFalsely : Prop := codeNextRow.holds Try.pinned (OpenSpec.ofChange codeNextWrong)

/-- 'bastionlaw07.CodeTurns': WHATEVER THE INPUT: true; the input reads as it did. -/
def codeTurnsSpec : ChangeSpec := { name := "codeTurns", fn := fun _ => fun
  | [d1, d2] => { results := [.lit (.bool true)], args := [d1, d2] }
  | _ => none }
def codeTurnsRow : OpenClaim := { program := "ytlmcdbgcbmjilaa", sum := "e7714d520310020fa7c0c309ce38c02d017d3582c96ca0b3bfa50e503470dad8", func := "bastion/bastionlaw07.CodeTurns", spec := "codeTurns", unfollowed := true, recurses := true, apart := false }
def CodeTurnsSaid : Prop := codeTurnsRow.holds Try.pinned (OpenSpec.ofChange codeTurnsSpec)

/-- ITS FALSE NEIGHBOUR: 'it returns false'. Refute it at one input. -/
def codeTurnsWrong : ChangeSpec := { name := "codeTurns", fn := fun _ => fun
  | [d1, d2] => { results := [.lit (.bool false)], args := [d1, d2] }
  | _ => none }
def CodeTurnsWrongFalsely : Prop := codeTurnsRow.holds Try.pinned (OpenSpec.ofChange codeTurnsWrong)

/-- 'bastionlaw07.CodeOnce': WHATEVER THE INPUT: true; the input reads as it did. -/
def codeOnceSpec : ChangeSpec := { name := "codeOnce", fn := fun _ => fun
  | [d1, d2, d3] => { results := [.lit (.bool true)], args := [d1, d2, d3] }
  | _ => none }
def codeOnceRow : OpenClaim := { program := "ytlmcdbgcbmjilaa", sum := "e7714d520310020fa7c0c309ce38c02d017d3582c96ca0b3bfa50e503470dad8", func := "bastion/bastionlaw07.CodeOnce", spec := "codeOnce", unfollowed := true, recurses := true, apart := false }
def CodeOnceSaid : Prop := codeOnceRow.holds Try.pinned (OpenSpec.ofChange codeOnceSpec)

/-- ITS FALSE NEIGHBOUR: 'it returns false'. Refute it at one input. -/
def codeOnceWrong : ChangeSpec := { name := "codeOnce", fn := fun _ => fun
  | [d1, d2, d3] => { results := [.lit (.bool false)], args := [d1, d2, d3] }
  | _ => none }
def CodeOnceWrongFalsely : Prop := codeOnceRow.holds Try.pinned (OpenSpec.ofChange codeOnceWrong)

/-- 'bastionlaw08.DramUse': WHATEVER THE INPUT: true; the input reads as it did. -/
def dramUseSpec : ChangeSpec := { name := "dramUse", fn := fun _ => fun
  | [d1, d2, d3, d4] => { results := [.lit (.bool true)], args := [d1, d2, d3, d4] }
  | _ => none }
def dramUseRow : OpenClaim := { program := "ytlmcdbgcbmjilaa", sum := "e7714d520310020fa7c0c309ce38c02d017d3582c96ca0b3bfa50e503470dad8", func := "bastion/bastionlaw08.DramUse", spec := "dramUse", apart := false }
def DramUseSaid : Prop := dramUseRow.holds Try.pinned (OpenSpec.ofChange dramUseSpec)

/-- ITS FALSE NEIGHBOUR: 'it returns false'. Refute it at one input. -/
def dramUseWrong : ChangeSpec := { name := "dramUse", fn := fun _ => fun
  | [d1, d2, d3, d4] => { results := [.lit (.bool false)], args := [d1, d2, d3, d4] }
  | _ => none }
def DramUseWrongFalsely : Prop := dramUseRow.holds Try.pinned (OpenSpec.ofChange dramUseWrong)

/-- 'bastionlaw08.DramFlips': WHATEVER THE INPUT: true; the input reads as it did. -/
def dramFlipsSpec : ChangeSpec := { name := "dramFlips", fn := fun _ => fun
  | [d1, d2] => { results := [.lit (.bool true)], args := [d1, d2] }
  | _ => none }
def dramFlipsRow : OpenClaim := { program := "ytlmcdbgcbmjilaa", sum := "e7714d520310020fa7c0c309ce38c02d017d3582c96ca0b3bfa50e503470dad8", func := "bastion/bastionlaw08.DramFlips", spec := "dramFlips", apart := false }
def DramFlipsSaid : Prop := dramFlipsRow.holds Try.pinned (OpenSpec.ofChange dramFlipsSpec)

/-- ITS FALSE NEIGHBOUR: 'it returns false'. Refute it at one input. -/
def dramFlipsWrong : ChangeSpec := { name := "dramFlips", fn := fun _ => fun
  | [d1, d2] => { results := [.lit (.bool false)], args := [d1, d2] }
  | _ => none }
def DramFlipsWrongFalsely : Prop := dramFlipsRow.holds Try.pinned (OpenSpec.ofChange dramFlipsWrong)

/-- 'bastionlaw08.DramDrops': WHATEVER THE INPUT: true; the input reads as it did. -/
def dramDropsSpec : ChangeSpec := { name := "dramDrops", fn := fun _ => fun
  | [d1, d2] => { results := [.lit (.bool true)], args := [d1, d2] }
  | _ => none }
def dramDropsRow : OpenClaim := { program := "ytlmcdbgcbmjilaa", sum := "e7714d520310020fa7c0c309ce38c02d017d3582c96ca0b3bfa50e503470dad8", func := "bastion/bastionlaw08.DramDrops", spec := "dramDrops", apart := false }
def DramDropsSaid : Prop := dramDropsRow.holds Try.pinned (OpenSpec.ofChange dramDropsSpec)

/-- ITS FALSE NEIGHBOUR: 'it returns false'. Refute it at one input. -/
def dramDropsWrong : ChangeSpec := { name := "dramDrops", fn := fun _ => fun
  | [d1, d2] => { results := [.lit (.bool false)], args := [d1, d2] }
  | _ => none }
def DramDropsWrongFalsely : Prop := dramDropsRow.holds Try.pinned (OpenSpec.ofChange dramDropsWrong)

/-- 'bastionlaw07.CodeMessages': WHATEVER THE INPUT: true; the input reads as it did. -/
def codeMessagesSpec : ChangeSpec := { name := "codeMessages", fn := fun _ => fun
  | [d1, d2, d3, d4, d5, d6, d7, d8, d9, d10] => { results := [.lit (.bool true)], args := [d1, d2, d3, d4, d5, d6, d7, d8, d9, d10] }
  | _ => none }
def codeMessagesRow : OpenClaim := { program := "ytlmcdbgcbmjilaa", sum := "e7714d520310020fa7c0c309ce38c02d017d3582c96ca0b3bfa50e503470dad8", func := "bastion/bastionlaw07.CodeMessages", spec := "codeMessages", unfollowed := true, recurses := true, apart := false }
def CodeMessagesSaid : Prop := codeMessagesRow.holds Try.pinned (OpenSpec.ofChange codeMessagesSpec)

/-- ITS FALSE NEIGHBOUR: 'it returns false'. Refute it at one input. -/
def codeMessagesWrong : ChangeSpec := { name := "codeMessages", fn := fun _ => fun
  | [d1, d2, d3, d4, d5, d6, d7, d8, d9, d10] => { results := [.lit (.bool false)], args := [d1, d2, d3, d4, d5, d6, d7, d8, d9, d10] }
  | _ => none }
def CodeMessagesWrongFalsely : Prop := codeMessagesRow.holds Try.pinned (OpenSpec.ofChange codeMessagesWrong)

/-- 'bastionlaw16.WordChecks': WHATEVER THE INPUT: true; the input reads as it did. -/
def wordChecksSpec : ChangeSpec := { name := "wordChecks", fn := fun _ => fun
  | [d1, d2] => { results := [.lit (.bool true)], args := [d1, d2] }
  | _ => none }
def wordChecksRow : OpenClaim := { program := "ytlmcdbgcbmjilaa", sum := "e7714d520310020fa7c0c309ce38c02d017d3582c96ca0b3bfa50e503470dad8", func := "bastion/bastionlaw16.WordChecks", spec := "wordChecks", apart := false }
def WordChecksSaid : Prop := wordChecksRow.holds Try.pinned (OpenSpec.ofChange wordChecksSpec)

/-- ITS FALSE NEIGHBOUR: 'it returns false'. Refute it at one input. -/
def wordChecksWrong : ChangeSpec := { name := "wordChecks", fn := fun _ => fun
  | [d1, d2] => { results := [.lit (.bool false)], args := [d1, d2] }
  | _ => none }
def WordChecksWrongFalsely : Prop := wordChecksRow.holds Try.pinned (OpenSpec.ofChange wordChecksWrong)

/-- 'bastionlaw07.CodeCounters': WHATEVER THE INPUT: true; the input reads as it did. -/
def codeCountersSpec : ChangeSpec := { name := "codeCounters", fn := fun _ => fun
  | [d1, d2, d3] => { results := [.lit (.bool true)], args := [d1, d2, d3] }
  | _ => none }
def codeCountersRow : OpenClaim := { program := "ytlmcdbgcbmjilaa", sum := "e7714d520310020fa7c0c309ce38c02d017d3582c96ca0b3bfa50e503470dad8", func := "bastion/bastionlaw07.CodeCounters", spec := "codeCounters", unfollowed := true, recurses := true, apart := false }
def CodeCountersSaid : Prop := codeCountersRow.holds Try.pinned (OpenSpec.ofChange codeCountersSpec)

/-- ITS FALSE NEIGHBOUR: 'it returns false'. Refute it at one input. -/
def codeCountersWrong : ChangeSpec := { name := "codeCounters", fn := fun _ => fun
  | [d1, d2, d3] => { results := [.lit (.bool false)], args := [d1, d2, d3] }
  | _ => none }
def CodeCountersWrongFalsely : Prop := codeCountersRow.holds Try.pinned (OpenSpec.ofChange codeCountersWrong)

/-- 'bastionlaw07.CodeNodes': WHATEVER THE INPUT: true; the input reads as it did. -/
def codeNodesSpec : ChangeSpec := { name := "codeNodes", fn := fun _ => fun
  | [d1, d2, d3, d4] => { results := [.lit (.bool true)], args := [d1, d2, d3, d4] }
  | _ => none }
def codeNodesRow : OpenClaim := { program := "ytlmcdbgcbmjilaa", sum := "e7714d520310020fa7c0c309ce38c02d017d3582c96ca0b3bfa50e503470dad8", func := "bastion/bastionlaw07.CodeNodes", spec := "codeNodes", unfollowed := true, recurses := true, apart := false }
def CodeNodesSaid : Prop := codeNodesRow.holds Try.pinned (OpenSpec.ofChange codeNodesSpec)

/-- ITS FALSE NEIGHBOUR: 'it returns false'. Refute it at one input. -/
def codeNodesWrong : ChangeSpec := { name := "codeNodes", fn := fun _ => fun
  | [d1, d2, d3, d4] => { results := [.lit (.bool false)], args := [d1, d2, d3, d4] }
  | _ => none }
def CodeNodesWrongFalsely : Prop := codeNodesRow.holds Try.pinned (OpenSpec.ofChange codeNodesWrong)

/-- 'bastionlaw22.FlatFront': WHATEVER THE INPUT: true; the input reads as it did. -/
def flatFrontSpec : ChangeSpec := { name := "flatFront", fn := fun _ => fun
  | [d1, d2, d3] => { results := [.lit (.bool true)], args := [d1, d2, d3] }
  | _ => none }
def flatFrontRow : OpenClaim := { program := "ytlmcdbgcbmjilaa", sum := "e7714d520310020fa7c0c309ce38c02d017d3582c96ca0b3bfa50e503470dad8", func := "bastion/bastionlaw22.FlatFront", spec := "flatFront", apart := false }
def FlatFrontSaid : Prop := flatFrontRow.holds Try.pinned (OpenSpec.ofChange flatFrontSpec)

/-- ITS FALSE NEIGHBOUR: 'it returns false'. Refute it at one input. -/
def flatFrontWrong : ChangeSpec := { name := "flatFront", fn := fun _ => fun
  | [d1, d2, d3] => { results := [.lit (.bool false)], args := [d1, d2, d3] }
  | _ => none }
def FlatFrontWrongFalsely : Prop := flatFrontRow.holds Try.pinned (OpenSpec.ofChange flatFrontWrong)

/-- 'bastionlaw22.FlatDoes': WHATEVER THE INPUT: true; the input reads as it did. -/
def flatDoesSpec : ChangeSpec := { name := "flatDoes", fn := fun _ => fun
  | [d1, d2, d3] => { results := [.lit (.bool true)], args := [d1, d2, d3] }
  | _ => none }
def flatDoesRow : OpenClaim := { program := "ytlmcdbgcbmjilaa", sum := "e7714d520310020fa7c0c309ce38c02d017d3582c96ca0b3bfa50e503470dad8", func := "bastion/bastionlaw22.FlatDoes", spec := "flatDoes", apart := false }
def FlatDoesSaid : Prop := flatDoesRow.holds Try.pinned (OpenSpec.ofChange flatDoesSpec)

/-- ITS FALSE NEIGHBOUR: 'it returns false'. Refute it at one input. -/
def flatDoesWrong : ChangeSpec := { name := "flatDoes", fn := fun _ => fun
  | [d1, d2, d3] => { results := [.lit (.bool false)], args := [d1, d2, d3] }
  | _ => none }
def FlatDoesWrongFalsely : Prop := flatDoesRow.holds Try.pinned (OpenSpec.ofChange flatDoesWrong)

/-- 'bastionlaw22.FlatChecks': WHATEVER THE INPUT: true; the input reads as it did. -/
def flatChecksSpec : ChangeSpec := { name := "flatChecks", fn := fun _ => fun
  | [d1, d2] => { results := [.lit (.bool true)], args := [d1, d2] }
  | _ => none }
def flatChecksRow : OpenClaim := { program := "ytlmcdbgcbmjilaa", sum := "e7714d520310020fa7c0c309ce38c02d017d3582c96ca0b3bfa50e503470dad8", func := "bastion/bastionlaw22.FlatChecks", spec := "flatChecks", apart := false }
def FlatChecksSaid : Prop := flatChecksRow.holds Try.pinned (OpenSpec.ofChange flatChecksSpec)

/-- ITS FALSE NEIGHBOUR: 'it returns false'. Refute it at one input. -/
def flatChecksWrong : ChangeSpec := { name := "flatChecks", fn := fun _ => fun
  | [d1, d2] => { results := [.lit (.bool false)], args := [d1, d2] }
  | _ => none }
def FlatChecksWrongFalsely : Prop := flatChecksRow.holds Try.pinned (OpenSpec.ofChange flatChecksWrong)

/-- 'bastionlaw11.WaysOrder': WHATEVER THE INPUT: true; the input reads as it did. -/
def waysOrderSpec : ChangeSpec := { name := "waysOrder", fn := fun _ => fun
  | [d1, d2, d3] => { results := [.lit (.bool true)], args := [d1, d2, d3] }
  | _ => none }
def waysOrderRow : OpenClaim := { program := "ytlmcdbgcbmjilaa", sum := "e7714d520310020fa7c0c309ce38c02d017d3582c96ca0b3bfa50e503470dad8", func := "bastion/bastionlaw11.WaysOrder", spec := "waysOrder", unfollowed := true, recurses := true, apart := false }
def WaysOrderSaid : Prop := waysOrderRow.holds Try.pinned (OpenSpec.ofChange waysOrderSpec)

/-- ITS FALSE NEIGHBOUR: 'it returns false'. Refute it at one input. -/
def waysOrderWrong : ChangeSpec := { name := "waysOrder", fn := fun _ => fun
  | [d1, d2, d3] => { results := [.lit (.bool false)], args := [d1, d2, d3] }
  | _ => none }
def WaysOrderWrongFalsely : Prop := waysOrderRow.holds Try.pinned (OpenSpec.ofChange waysOrderWrong)

/-- 'bastionlaw11.WaysCalls': WHATEVER THE INPUT: true; the input reads as it did. -/
def waysCallsSpec : ChangeSpec := { name := "waysCalls", fn := fun _ => fun
  | [d1, d2, d3] => { results := [.lit (.bool true)], args := [d1, d2, d3] }
  | _ => none }
def waysCallsRow : OpenClaim := { program := "ytlmcdbgcbmjilaa", sum := "e7714d520310020fa7c0c309ce38c02d017d3582c96ca0b3bfa50e503470dad8", func := "bastion/bastionlaw11.WaysCalls", spec := "waysCalls", unfollowed := true, recurses := true, apart := false }
def WaysCallsSaid : Prop := waysCallsRow.holds Try.pinned (OpenSpec.ofChange waysCallsSpec)

/-- ITS FALSE NEIGHBOUR: 'it returns false'. Refute it at one input. -/
def waysCallsWrong : ChangeSpec := { name := "waysCalls", fn := fun _ => fun
  | [d1, d2, d3] => { results := [.lit (.bool false)], args := [d1, d2, d3] }
  | _ => none }
def WaysCallsWrongFalsely : Prop := waysCallsRow.holds Try.pinned (OpenSpec.ofChange waysCallsWrong)

/-- 'bastionlaw18.BankCalls': WHATEVER THE INPUT: true; the input reads as it did. -/
def bankCallsSpec : ChangeSpec := { name := "bankCalls", fn := fun _ => fun
  | [d1, d2, d3] => { results := [.lit (.bool true)], args := [d1, d2, d3] }
  | _ => none }
def bankCallsRow : OpenClaim := { program := "ytlmcdbgcbmjilaa", sum := "e7714d520310020fa7c0c309ce38c02d017d3582c96ca0b3bfa50e503470dad8", func := "bastion/bastionlaw18.BankCalls", spec := "bankCalls", unfollowed := true, recurses := true, apart := false }
def BankCallsSaid : Prop := bankCallsRow.holds Try.pinned (OpenSpec.ofChange bankCallsSpec)

/-- ITS FALSE NEIGHBOUR: 'it returns false'. Refute it at one input. -/
def bankCallsWrong : ChangeSpec := { name := "bankCalls", fn := fun _ => fun
  | [d1, d2, d3] => { results := [.lit (.bool false)], args := [d1, d2, d3] }
  | _ => none }
def BankCallsWrongFalsely : Prop := bankCallsRow.holds Try.pinned (OpenSpec.ofChange bankCallsWrong)

/-- 'bastionlaw18.BankTurns': WHATEVER THE INPUT: true; the input reads as it did. -/
def bankTurnsSpec : ChangeSpec := { name := "bankTurns", fn := fun _ => fun
  | [d1, d2] => { results := [.lit (.bool true)], args := [d1, d2] }
  | _ => none }
def bankTurnsRow : OpenClaim := { program := "ytlmcdbgcbmjilaa", sum := "e7714d520310020fa7c0c309ce38c02d017d3582c96ca0b3bfa50e503470dad8", func := "bastion/bastionlaw18.BankTurns", spec := "bankTurns", unfollowed := true, recurses := true, apart := false }
def BankTurnsSaid : Prop := bankTurnsRow.holds Try.pinned (OpenSpec.ofChange bankTurnsSpec)

/-- ITS FALSE NEIGHBOUR: 'it returns false'. Refute it at one input. -/
def bankTurnsWrong : ChangeSpec := { name := "bankTurns", fn := fun _ => fun
  | [d1, d2] => { results := [.lit (.bool false)], args := [d1, d2] }
  | _ => none }
def BankTurnsWrongFalsely : Prop := bankTurnsRow.holds Try.pinned (OpenSpec.ofChange bankTurnsWrong)

/-- 'bastionlaw18.BankGives': WHATEVER THE INPUT: true; the input reads as it did. -/
def bankGivesSpec : ChangeSpec := { name := "bankGives", fn := fun _ => fun
  | [d1, d2] => { results := [.lit (.bool true)], args := [d1, d2] }
  | _ => none }
def bankGivesRow : OpenClaim := { program := "ytlmcdbgcbmjilaa", sum := "e7714d520310020fa7c0c309ce38c02d017d3582c96ca0b3bfa50e503470dad8", func := "bastion/bastionlaw18.BankGives", spec := "bankGives", unfollowed := true, recurses := true, apart := false }
def BankGivesSaid : Prop := bankGivesRow.holds Try.pinned (OpenSpec.ofChange bankGivesSpec)

/-- ITS FALSE NEIGHBOUR: 'it returns false'. Refute it at one input. -/
def bankGivesWrong : ChangeSpec := { name := "bankGives", fn := fun _ => fun
  | [d1, d2] => { results := [.lit (.bool false)], args := [d1, d2] }
  | _ => none }
def BankGivesWrongFalsely : Prop := bankGivesRow.holds Try.pinned (OpenSpec.ofChange bankGivesWrong)

/-- 'bastionlaw18.BankWants': WHATEVER THE INPUT: true; the input reads as it did. -/
def bankWantsSpec : ChangeSpec := { name := "bankWants", fn := fun _ => fun
  | [d1, d2] => { results := [.lit (.bool true)], args := [d1, d2] }
  | _ => none }
def bankWantsRow : OpenClaim := { program := "ytlmcdbgcbmjilaa", sum := "e7714d520310020fa7c0c309ce38c02d017d3582c96ca0b3bfa50e503470dad8", func := "bastion/bastionlaw18.BankWants", spec := "bankWants", unfollowed := true, recurses := true, apart := false }
def BankWantsSaid : Prop := bankWantsRow.holds Try.pinned (OpenSpec.ofChange bankWantsSpec)

/-- ITS FALSE NEIGHBOUR: 'it returns false'. Refute it at one input. -/
def bankWantsWrong : ChangeSpec := { name := "bankWants", fn := fun _ => fun
  | [d1, d2] => { results := [.lit (.bool false)], args := [d1, d2] }
  | _ => none }
def BankWantsWrongFalsely : Prop := bankWantsRow.holds Try.pinned (OpenSpec.ofChange bankWantsWrong)

/- THE SECOND FORM. 'bulk': how many values and letters a reading holds, each counted each time it is reached (what is shared counts as often as it is met; a slice's spare places count too). A statement '..UptoSaid' is the law's where the arguments, and the package variables that the reading takes, are together of bulk at most 1048576: NARROWER than '..Said'. Prove '..Said' where nothing that the law and all that it calls make is longer than what came in: it says more and counts as full. Else prove '..UptoSaid'. A law counts once. -/
mutual
def uptoBulk {H : Type} : DataW H → Nat
  | .lit (.string bytes) => bytes.length + 1
  | .lit _ => 1
  | .nil => 1
  | .ptr d => uptoBulk d + 1
  | .slice elems spare => uptoBulkAll elems + uptoBulkAll spare + 1
  | .agg parts => uptoBulkAll parts + 1
  | .iface _ d => uptoBulk d + 1
  | .map entries => uptoBulkEntries entries + 1
  | .held _ => 1
def uptoBulkAll {H : Type} : List (DataW H) → Nat
  | [] => 0
  | d :: r => uptoBulk d + uptoBulkAll r
def uptoBulkEntries {H : Type} : List (Lit × DataW H) → Nat
  | [] => 0
  | x :: r => uptoBulkEntry x + uptoBulkEntries r
def uptoBulkEntry {H : Type} : Lit × DataW H → Nat
  | (.string bytes, d) => bytes.length + uptoBulk d + 1
  | (_, d) => uptoBulk d + 1
 end
def uptoSmall : (H : Type) → List (DataW H) → Bool := fun _ ds => decide (uptoBulkAll ds ≤ 1048576)
def OpenSpec.upto (s : _root_.Go.ChangeSpec) : _root_.Go.OpenSpec := { _root_.Go.OpenSpec.ofChange s with cond := some uptoSmall }

/-- 'bastionlaw01.BitsNumbers', WHERE WHAT IT READS IS OF BULK AT MOST 1048576: true; the input reads as it did. -/
def bitsNumbersUptoRow : OpenClaim := { program := "ytlmcdbgcbmjilaa", sum := "e7714d520310020fa7c0c309ce38c02d017d3582c96ca0b3bfa50e503470dad8", func := "bastion/bastionlaw01.BitsNumbers", spec := "bitsNumbers", apart := false, narrowed := true }
def BitsNumbersUptoSaid : Prop := bitsNumbersUptoRow.holds Try.pinned (OpenSpec.upto bitsNumbersSpec)

/-- 'bastionlaw01.BitsSizes', WHERE WHAT IT READS IS OF BULK AT MOST 1048576: true; the input reads as it did. -/
def bitsSizesUptoRow : OpenClaim := { program := "ytlmcdbgcbmjilaa", sum := "e7714d520310020fa7c0c309ce38c02d017d3582c96ca0b3bfa50e503470dad8", func := "bastion/bastionlaw01.BitsSizes", spec := "bitsSizes", apart := false, narrowed := true }
def BitsSizesUptoSaid : Prop := bitsSizesUptoRow.holds Try.pinned (OpenSpec.upto bitsSizesSpec)

/-- 'bastionlaw01.BitsBeside', WHERE WHAT IT READS IS OF BULK AT MOST 1048576: true; the input reads as it did. -/
def bitsBesideUptoRow : OpenClaim := { program := "ytlmcdbgcbmjilaa", sum := "e7714d520310020fa7c0c309ce38c02d017d3582c96ca0b3bfa50e503470dad8", func := "bastion/bastionlaw01.BitsBeside", spec := "bitsBeside", apart := false, narrowed := true }
def BitsBesideUptoSaid : Prop := bitsBesideUptoRow.holds Try.pinned (OpenSpec.upto bitsBesideSpec)

/-- 'bastionlaw01.BitsWhole', WHERE WHAT IT READS IS OF BULK AT MOST 1048576: true; the input reads as it did. -/
def bitsWholeUptoRow : OpenClaim := { program := "ytlmcdbgcbmjilaa", sum := "e7714d520310020fa7c0c309ce38c02d017d3582c96ca0b3bfa50e503470dad8", func := "bastion/bastionlaw01.BitsWhole", spec := "bitsWhole", apart := false, narrowed := true }
def BitsWholeUptoSaid : Prop := bitsWholeUptoRow.holds Try.pinned (OpenSpec.upto bitsWholeSpec)

/-- 'bastionlaw05.PlanChecks', WHERE WHAT IT READS IS OF BULK AT MOST 1048576: true; the input reads as it did. -/
def planChecksUptoRow : OpenClaim := { program := "ytlmcdbgcbmjilaa", sum := "e7714d520310020fa7c0c309ce38c02d017d3582c96ca0b3bfa50e503470dad8", func := "bastion/bastionlaw05.PlanChecks", spec := "planChecks", apart := false, narrowed := true }
def PlanChecksUptoSaid : Prop := planChecksUptoRow.holds Try.pinned (OpenSpec.upto planChecksSpec)

/-- 'bastionlaw16.WordDoes', WHERE WHAT IT READS IS OF BULK AT MOST 1048576: true; the input reads as it did. -/
def wordDoesUptoRow : OpenClaim := { program := "ytlmcdbgcbmjilaa", sum := "e7714d520310020fa7c0c309ce38c02d017d3582c96ca0b3bfa50e503470dad8", func := "bastion/bastionlaw16.WordDoes", spec := "wordDoes", apart := false, narrowed := true }
def WordDoesUptoSaid : Prop := wordDoesUptoRow.holds Try.pinned (OpenSpec.upto wordDoesSpec)

/-- 'bastionlaw16.WordPlain', WHERE WHAT IT READS IS OF BULK AT MOST 1048576: true; the input reads as it did. -/
def wordPlainUptoRow : OpenClaim := { program := "ytlmcdbgcbmjilaa", sum := "e7714d520310020fa7c0c309ce38c02d017d3582c96ca0b3bfa50e503470dad8", func := "bastion/bastionlaw16.WordPlain", spec := "wordPlain", apart := false, narrowed := true }
def WordPlainUptoSaid : Prop := wordPlainUptoRow.holds Try.pinned (OpenSpec.upto wordPlainSpec)

/-- 'bastionlaw16.WordApart', WHERE WHAT IT READS IS OF BULK AT MOST 1048576: true; the input reads as it did. -/
def wordApartUptoRow : OpenClaim := { program := "ytlmcdbgcbmjilaa", sum := "e7714d520310020fa7c0c309ce38c02d017d3582c96ca0b3bfa50e503470dad8", func := "bastion/bastionlaw16.WordApart", spec := "wordApart", apart := false, narrowed := true }
def WordApartUptoSaid : Prop := wordApartUptoRow.holds Try.pinned (OpenSpec.upto wordApartSpec)

/-- 'bastionlaw05.PlanTree', WHERE WHAT IT READS IS OF BULK AT MOST 1048576: true; the input reads as it did. -/
def planTreeUptoRow : OpenClaim := { program := "ytlmcdbgcbmjilaa", sum := "e7714d520310020fa7c0c309ce38c02d017d3582c96ca0b3bfa50e503470dad8", func := "bastion/bastionlaw05.PlanTree", spec := "planTree", apart := false, narrowed := true }
def PlanTreeUptoSaid : Prop := planTreeUptoRow.holds Try.pinned (OpenSpec.upto planTreeSpec)

/-- 'bastionlaw05.PlanFits', WHERE WHAT IT READS IS OF BULK AT MOST 1048576: true; the input reads as it did. -/
def planFitsUptoRow : OpenClaim := { program := "ytlmcdbgcbmjilaa", sum := "e7714d520310020fa7c0c309ce38c02d017d3582c96ca0b3bfa50e503470dad8", func := "bastion/bastionlaw05.PlanFits", spec := "planFits", apart := false, narrowed := true }
def PlanFitsUptoSaid : Prop := planFitsUptoRow.holds Try.pinned (OpenSpec.upto planFitsSpec)

/-- 'bastionlaw05.PlanRoom', WHERE WHAT IT READS IS OF BULK AT MOST 1048576: true; the input reads as it did. -/
def planRoomUptoRow : OpenClaim := { program := "ytlmcdbgcbmjilaa", sum := "e7714d520310020fa7c0c309ce38c02d017d3582c96ca0b3bfa50e503470dad8", func := "bastion/bastionlaw05.PlanRoom", spec := "planRoom", apart := false, narrowed := true }
def PlanRoomUptoSaid : Prop := planRoomUptoRow.holds Try.pinned (OpenSpec.upto planRoomSpec)

/-- 'bastionlaw06.RegionTree', WHERE WHAT IT READS IS OF BULK AT MOST 1048576: true; the input reads as it did. -/
def regionTreeUptoRow : OpenClaim := { program := "ytlmcdbgcbmjilaa", sum := "e7714d520310020fa7c0c309ce38c02d017d3582c96ca0b3bfa50e503470dad8", func := "bastion/bastionlaw06.RegionTree", spec := "regionTree", apart := false, narrowed := true }
def RegionTreeUptoSaid : Prop := regionTreeUptoRow.holds Try.pinned (OpenSpec.upto regionTreeSpec)

/-- 'bastionlaw06.RegionPages', WHERE WHAT IT READS IS OF BULK AT MOST 1048576: true; the input reads as it did. -/
def regionPagesUptoRow : OpenClaim := { program := "ytlmcdbgcbmjilaa", sum := "e7714d520310020fa7c0c309ce38c02d017d3582c96ca0b3bfa50e503470dad8", func := "bastion/bastionlaw06.RegionPages", spec := "regionPages", apart := false, narrowed := true }
def RegionPagesUptoSaid : Prop := regionPagesUptoRow.holds Try.pinned (OpenSpec.upto regionPagesSpec)

/-- 'bastionlaw11.WaysHolds', WHERE WHAT IT READS IS OF BULK AT MOST 1048576: true; the input reads as it did. -/
def waysHoldsUptoRow : OpenClaim := { program := "ytlmcdbgcbmjilaa", sum := "e7714d520310020fa7c0c309ce38c02d017d3582c96ca0b3bfa50e503470dad8", func := "bastion/bastionlaw11.WaysHolds", spec := "waysHolds", unfollowed := true, recurses := true, apart := false, narrowed := true }
def WaysHoldsUptoSaid : Prop := waysHoldsUptoRow.holds Try.pinned (OpenSpec.upto waysHoldsSpec)

/-- 'bastionlaw11.WaysApart', WHERE WHAT IT READS IS OF BULK AT MOST 1048576: true; the input reads as it did. -/
def waysApartUptoRow : OpenClaim := { program := "ytlmcdbgcbmjilaa", sum := "e7714d520310020fa7c0c309ce38c02d017d3582c96ca0b3bfa50e503470dad8", func := "bastion/bastionlaw11.WaysApart", spec := "waysApart", unfollowed := true, recurses := true, apart := false, narrowed := true }
def WaysApartUptoSaid : Prop := waysApartUptoRow.holds Try.pinned (OpenSpec.upto waysApartSpec)

/-- 'bastionlaw06.RegionLines', WHERE WHAT IT READS IS OF BULK AT MOST 1048576: true; the input reads as it did. -/
def regionLinesUptoRow : OpenClaim := { program := "ytlmcdbgcbmjilaa", sum := "e7714d520310020fa7c0c309ce38c02d017d3582c96ca0b3bfa50e503470dad8", func := "bastion/bastionlaw06.RegionLines", spec := "regionLines", apart := false, narrowed := true }
def RegionLinesUptoSaid : Prop := regionLinesUptoRow.holds Try.pinned (OpenSpec.upto regionLinesSpec)

/-- 'bastionlaw06.RegionPlaces', WHERE WHAT IT READS IS OF BULK AT MOST 1048576: true; the input reads as it did. -/
def regionPlacesUptoRow : OpenClaim := { program := "ytlmcdbgcbmjilaa", sum := "e7714d520310020fa7c0c309ce38c02d017d3582c96ca0b3bfa50e503470dad8", func := "bastion/bastionlaw06.RegionPlaces", spec := "regionPlaces", apart := false, narrowed := true }
def RegionPlacesUptoSaid : Prop := regionPlacesUptoRow.holds Try.pinned (OpenSpec.upto regionPlacesSpec)

/-- 'bastionlaw06.RegionAll', WHERE WHAT IT READS IS OF BULK AT MOST 1048576: true; the input reads as it did. -/
def regionAllUptoRow : OpenClaim := { program := "ytlmcdbgcbmjilaa", sum := "e7714d520310020fa7c0c309ce38c02d017d3582c96ca0b3bfa50e503470dad8", func := "bastion/bastionlaw06.RegionAll", spec := "regionAll", apart := false, narrowed := true }
def RegionAllUptoSaid : Prop := regionAllUptoRow.holds Try.pinned (OpenSpec.upto regionAllSpec)

/-- 'bastionlaw07.CodeNext', WHERE WHAT IT READS IS OF BULK AT MOST 1048576: true; the input reads as it did. -/
def codeNextUptoRow : OpenClaim := { program := "ytlmcdbgcbmjilaa", sum := "e7714d520310020fa7c0c309ce38c02d017d3582c96ca0b3bfa50e503470dad8", func := "bastion/bastionlaw07.CodeNext", spec := "codeNext", unfollowed := true, recurses := true, apart := false, narrowed := true }
def CodeNextUptoSaid : Prop := codeNextUptoRow.holds Try.pinned (OpenSpec.upto codeNextSpec)

/-- 'bastionlaw07.CodeTurns', WHERE WHAT IT READS IS OF BULK AT MOST 1048576: true; the input reads as it did. -/
def codeTurnsUptoRow : OpenClaim := { program := "ytlmcdbgcbmjilaa", sum := "e7714d520310020fa7c0c309ce38c02d017d3582c96ca0b3bfa50e503470dad8", func := "bastion/bastionlaw07.CodeTurns", spec := "codeTurns", unfollowed := true, recurses := true, apart := false, narrowed := true }
def CodeTurnsUptoSaid : Prop := codeTurnsUptoRow.holds Try.pinned (OpenSpec.upto codeTurnsSpec)

/-- 'bastionlaw07.CodeOnce', WHERE WHAT IT READS IS OF BULK AT MOST 1048576: true; the input reads as it did. -/
def codeOnceUptoRow : OpenClaim := { program := "ytlmcdbgcbmjilaa", sum := "e7714d520310020fa7c0c309ce38c02d017d3582c96ca0b3bfa50e503470dad8", func := "bastion/bastionlaw07.CodeOnce", spec := "codeOnce", unfollowed := true, recurses := true, apart := false, narrowed := true }
def CodeOnceUptoSaid : Prop := codeOnceUptoRow.holds Try.pinned (OpenSpec.upto codeOnceSpec)

/-- 'bastionlaw08.DramUse', WHERE WHAT IT READS IS OF BULK AT MOST 1048576: true; the input reads as it did. -/
def dramUseUptoRow : OpenClaim := { program := "ytlmcdbgcbmjilaa", sum := "e7714d520310020fa7c0c309ce38c02d017d3582c96ca0b3bfa50e503470dad8", func := "bastion/bastionlaw08.DramUse", spec := "dramUse", apart := false, narrowed := true }
def DramUseUptoSaid : Prop := dramUseUptoRow.holds Try.pinned (OpenSpec.upto dramUseSpec)

/-- 'bastionlaw08.DramFlips', WHERE WHAT IT READS IS OF BULK AT MOST 1048576: true; the input reads as it did. -/
def dramFlipsUptoRow : OpenClaim := { program := "ytlmcdbgcbmjilaa", sum := "e7714d520310020fa7c0c309ce38c02d017d3582c96ca0b3bfa50e503470dad8", func := "bastion/bastionlaw08.DramFlips", spec := "dramFlips", apart := false, narrowed := true }
def DramFlipsUptoSaid : Prop := dramFlipsUptoRow.holds Try.pinned (OpenSpec.upto dramFlipsSpec)

/-- 'bastionlaw08.DramDrops', WHERE WHAT IT READS IS OF BULK AT MOST 1048576: true; the input reads as it did. -/
def dramDropsUptoRow : OpenClaim := { program := "ytlmcdbgcbmjilaa", sum := "e7714d520310020fa7c0c309ce38c02d017d3582c96ca0b3bfa50e503470dad8", func := "bastion/bastionlaw08.DramDrops", spec := "dramDrops", apart := false, narrowed := true }
def DramDropsUptoSaid : Prop := dramDropsUptoRow.holds Try.pinned (OpenSpec.upto dramDropsSpec)

/-- 'bastionlaw07.CodeMessages', WHERE WHAT IT READS IS OF BULK AT MOST 1048576: true; the input reads as it did. -/
def codeMessagesUptoRow : OpenClaim := { program := "ytlmcdbgcbmjilaa", sum := "e7714d520310020fa7c0c309ce38c02d017d3582c96ca0b3bfa50e503470dad8", func := "bastion/bastionlaw07.CodeMessages", spec := "codeMessages", unfollowed := true, recurses := true, apart := false, narrowed := true }
def CodeMessagesUptoSaid : Prop := codeMessagesUptoRow.holds Try.pinned (OpenSpec.upto codeMessagesSpec)

/-- 'bastionlaw16.WordChecks', WHERE WHAT IT READS IS OF BULK AT MOST 1048576: true; the input reads as it did. -/
def wordChecksUptoRow : OpenClaim := { program := "ytlmcdbgcbmjilaa", sum := "e7714d520310020fa7c0c309ce38c02d017d3582c96ca0b3bfa50e503470dad8", func := "bastion/bastionlaw16.WordChecks", spec := "wordChecks", apart := false, narrowed := true }
def WordChecksUptoSaid : Prop := wordChecksUptoRow.holds Try.pinned (OpenSpec.upto wordChecksSpec)

/-- 'bastionlaw07.CodeCounters', WHERE WHAT IT READS IS OF BULK AT MOST 1048576: true; the input reads as it did. -/
def codeCountersUptoRow : OpenClaim := { program := "ytlmcdbgcbmjilaa", sum := "e7714d520310020fa7c0c309ce38c02d017d3582c96ca0b3bfa50e503470dad8", func := "bastion/bastionlaw07.CodeCounters", spec := "codeCounters", unfollowed := true, recurses := true, apart := false, narrowed := true }
def CodeCountersUptoSaid : Prop := codeCountersUptoRow.holds Try.pinned (OpenSpec.upto codeCountersSpec)

/-- 'bastionlaw07.CodeNodes', WHERE WHAT IT READS IS OF BULK AT MOST 1048576: true; the input reads as it did. -/
def codeNodesUptoRow : OpenClaim := { program := "ytlmcdbgcbmjilaa", sum := "e7714d520310020fa7c0c309ce38c02d017d3582c96ca0b3bfa50e503470dad8", func := "bastion/bastionlaw07.CodeNodes", spec := "codeNodes", unfollowed := true, recurses := true, apart := false, narrowed := true }
def CodeNodesUptoSaid : Prop := codeNodesUptoRow.holds Try.pinned (OpenSpec.upto codeNodesSpec)

/-- 'bastionlaw22.FlatFront', WHERE WHAT IT READS IS OF BULK AT MOST 1048576: true; the input reads as it did. -/
def flatFrontUptoRow : OpenClaim := { program := "ytlmcdbgcbmjilaa", sum := "e7714d520310020fa7c0c309ce38c02d017d3582c96ca0b3bfa50e503470dad8", func := "bastion/bastionlaw22.FlatFront", spec := "flatFront", apart := false, narrowed := true }
def FlatFrontUptoSaid : Prop := flatFrontUptoRow.holds Try.pinned (OpenSpec.upto flatFrontSpec)

/-- 'bastionlaw22.FlatDoes', WHERE WHAT IT READS IS OF BULK AT MOST 1048576: true; the input reads as it did. -/
def flatDoesUptoRow : OpenClaim := { program := "ytlmcdbgcbmjilaa", sum := "e7714d520310020fa7c0c309ce38c02d017d3582c96ca0b3bfa50e503470dad8", func := "bastion/bastionlaw22.FlatDoes", spec := "flatDoes", apart := false, narrowed := true }
def FlatDoesUptoSaid : Prop := flatDoesUptoRow.holds Try.pinned (OpenSpec.upto flatDoesSpec)

/-- 'bastionlaw22.FlatChecks', WHERE WHAT IT READS IS OF BULK AT MOST 1048576: true; the input reads as it did. -/
def flatChecksUptoRow : OpenClaim := { program := "ytlmcdbgcbmjilaa", sum := "e7714d520310020fa7c0c309ce38c02d017d3582c96ca0b3bfa50e503470dad8", func := "bastion/bastionlaw22.FlatChecks", spec := "flatChecks", apart := false, narrowed := true }
def FlatChecksUptoSaid : Prop := flatChecksUptoRow.holds Try.pinned (OpenSpec.upto flatChecksSpec)

/-- 'bastionlaw11.WaysOrder', WHERE WHAT IT READS IS OF BULK AT MOST 1048576: true; the input reads as it did. -/
def waysOrderUptoRow : OpenClaim := { program := "ytlmcdbgcbmjilaa", sum := "e7714d520310020fa7c0c309ce38c02d017d3582c96ca0b3bfa50e503470dad8", func := "bastion/bastionlaw11.WaysOrder", spec := "waysOrder", unfollowed := true, recurses := true, apart := false, narrowed := true }
def WaysOrderUptoSaid : Prop := waysOrderUptoRow.holds Try.pinned (OpenSpec.upto waysOrderSpec)

/-- 'bastionlaw11.WaysCalls', WHERE WHAT IT READS IS OF BULK AT MOST 1048576: true; the input reads as it did. -/
def waysCallsUptoRow : OpenClaim := { program := "ytlmcdbgcbmjilaa", sum := "e7714d520310020fa7c0c309ce38c02d017d3582c96ca0b3bfa50e503470dad8", func := "bastion/bastionlaw11.WaysCalls", spec := "waysCalls", unfollowed := true, recurses := true, apart := false, narrowed := true }
def WaysCallsUptoSaid : Prop := waysCallsUptoRow.holds Try.pinned (OpenSpec.upto waysCallsSpec)

/-- 'bastionlaw18.BankCalls', WHERE WHAT IT READS IS OF BULK AT MOST 1048576: true; the input reads as it did. -/
def bankCallsUptoRow : OpenClaim := { program := "ytlmcdbgcbmjilaa", sum := "e7714d520310020fa7c0c309ce38c02d017d3582c96ca0b3bfa50e503470dad8", func := "bastion/bastionlaw18.BankCalls", spec := "bankCalls", unfollowed := true, recurses := true, apart := false, narrowed := true }
def BankCallsUptoSaid : Prop := bankCallsUptoRow.holds Try.pinned (OpenSpec.upto bankCallsSpec)

/-- 'bastionlaw18.BankTurns', WHERE WHAT IT READS IS OF BULK AT MOST 1048576: true; the input reads as it did. -/
def bankTurnsUptoRow : OpenClaim := { program := "ytlmcdbgcbmjilaa", sum := "e7714d520310020fa7c0c309ce38c02d017d3582c96ca0b3bfa50e503470dad8", func := "bastion/bastionlaw18.BankTurns", spec := "bankTurns", unfollowed := true, recurses := true, apart := false, narrowed := true }
def BankTurnsUptoSaid : Prop := bankTurnsUptoRow.holds Try.pinned (OpenSpec.upto bankTurnsSpec)

/-- 'bastionlaw18.BankGives', WHERE WHAT IT READS IS OF BULK AT MOST 1048576: true; the input reads as it did. -/
def bankGivesUptoRow : OpenClaim := { program := "ytlmcdbgcbmjilaa", sum := "e7714d520310020fa7c0c309ce38c02d017d3582c96ca0b3bfa50e503470dad8", func := "bastion/bastionlaw18.BankGives", spec := "bankGives", unfollowed := true, recurses := true, apart := false, narrowed := true }
def BankGivesUptoSaid : Prop := bankGivesUptoRow.holds Try.pinned (OpenSpec.upto bankGivesSpec)

/-- 'bastionlaw18.BankWants', WHERE WHAT IT READS IS OF BULK AT MOST 1048576: true; the input reads as it did. -/
def bankWantsUptoRow : OpenClaim := { program := "ytlmcdbgcbmjilaa", sum := "e7714d520310020fa7c0c309ce38c02d017d3582c96ca0b3bfa50e503470dad8", func := "bastion/bastionlaw18.BankWants", spec := "bankWants", unfollowed := true, recurses := true, apart := false, narrowed := true }
def BankWantsUptoSaid : Prop := bankWantsUptoRow.holds Try.pinned (OpenSpec.upto bankWantsSpec)

end Rows
end Go.Proofs.Ytlmcdbgcbmjilaa
