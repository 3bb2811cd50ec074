/- Part of the proof: SxV1. -/
import Derived.Test.YtinjdimejijabaaSxV0
set_option linter.unusedVariables false
set_option linter.unusedSimpArgs false
namespace Go.Sx
inductive DA | pl (v : SVal) | sl (w : Bool) (k : IntKind) (n cap : Nat) (xs : List Int)
  | ag (pre : List Chunk) (w : Bool) (k : IntKind) (n cap : Nat) (xs : List Int) (post : List Chunk) | pt (w : Bool) (cs : List Chunk) | fp (f : Nat) (w : Bool) (cs : List Chunk)
inductive DR | pl (v : SVal) | sl (k : IntKind) (n : Nat) (xs : List Int) | rw (sh : List Leaf) (n : Nat) (xs : List (Tup sh)) | ag (pre : List Chunk) (k : IntKind) (n : Nat) (xs : List Int) (post : List Chunk)
theorem Sound.mono {P : Program} {f : FuncId} {S S' : ZgX} (h : Sound P f S) (hs : ∀ args H K, S' args H K -> S args H K) : Sound P f S' := fun args H K h' => h args H K (hs args H K h')
end Go.Sx
