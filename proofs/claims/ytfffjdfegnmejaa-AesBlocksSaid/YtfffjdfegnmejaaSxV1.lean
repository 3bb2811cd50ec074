/- Part of the proof: SxV1. -/
import Derived.Test.YtfffjdfegnmejaaSxV0
set_option linter.unusedVariables false
set_option linter.unusedSimpArgs false
namespace Go.Sx
inductive DA | pl (v : SVal) | sl (w : Bool) (k : IntKind) (n cap : Nat) (xs : List Int)
  | ag (pre : List Chunk) (w : Bool) (k : IntKind) (n cap : Nat) (xs : List Int) (post : List Chunk) | pt (w : Bool) (cs : List Chunk) | fp (f : Nat) (w : Bool) (cs : List Chunk)
inductive DR | pl (v : SVal) | sl (k : IntKind) (n : Nat) (xs : List Int) | rw (sh : List Leaf) (n : Nat) (xs : List (Tup sh)) | ag (pre : List Chunk) (k : IntKind) (n : Nat) (xs : List Int) (post : List Chunk)
theorem Sound.mono {P : Program} {f : FuncId} {S S' : Zyw} (h : Sound P f S) (hs : ∀ args H K, S' args H K -> S args H K) : Sound P f S' := fun args H K h' => h args H K (hs args H K h')
theorem Zhb {n : Nat} {vs : List SVal} (h : bdL n vs) : SVal.bd n (.tuple vs) := by simp only [SVal.bd]; exact h
theorem Zkf {n : Nat} : bdL n [] := trivial
theorem Zi0 {n : Nat} {v : SVal} {r : List SVal} (h : v.bd n) (hr : bdL n r) : bdL n (v :: r) := ⟨h, hr⟩
abbrev Zaa : List Leaf := [.ints .u8 0]
abbrev Zaf : List Leaf := [.hd]
end Go.Sx
