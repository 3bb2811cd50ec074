/- Part of the proof: SxNum. -/
import Derived.Test.YtinjdimejijabaaSxHelp
set_option linter.unusedVariables false
set_option linter.unusedSimpArgs false
namespace Go.Sx
def Zy8 (v : Int) : Nat -> List Int
  | 0 => []
  | k + 1 => Zy8 v k ++ [(v / 256 ^ k) % 256]
end Go.Sx
