/- Part of the proof: SxEqT. -/
import Derived.Test.YtinjdimejijabaaSxWorld
import Derived.DeepKeys
set_option linter.unusedVariables false
set_option linter.unusedSimpArgs false
namespace Go.Sx
def Ze4 (P : Program) (f : TypeId -> Option (List (Option IntKind))) : Nat -> List Field -> Option (List (Option IntKind))
  | _, [] => some []
  | off, g :: r => if g.name ≠ "_" /\ g.offset = off then (match f g.type with
      | some l => if l.length = P.cellsOf g.type then (match Ze4 P f (off + l.length) r with
        | some l' => some (l ++ l')
        | none => none) else none
      | none => none) else none
def ZdB (P : Program) : Nat -> TypeId -> Option (List (Option IntKind))
  | 0, _ => none
  | m + 1, t => match P.underlying t with
    | some (.int k) => some [some k]
    | some .bool => some [none]
    | some (.array n e) => (match ZdB P m e with
      | some l => if l.length = P.cellsOf e then some (List.replicate n l).flatten else none
      | none => none)
    | some (.struct fs) => if P.stoodInHeld t = false then Ze4 P (ZdB P m) 0 fs.toList else none
    | _ => none
def Zng (P : Program) (t : TypeId) : Bool := match P.underlying t with
  | some (.struct _) | some (.array _ _) => true
  | _ => false
section
variable {P : Program} (w : World)
end
end Go.Sx
