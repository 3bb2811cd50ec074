/- What the word line of a cut program tells, for any program. -/
import Derived.ProofKit
namespace Go.Sx
section
variable {P : Program} {c : List Char} {r : List (List Char)}
theorem strip_none (h : (liftWords.all fun o => !(c == o.toList)) = true) : stripLifts liftWords (c :: r) = ([], c :: r) := by
  have hh : ∀ os : List String, (os.all fun o => !(c == o.toList)) = true → stripLifts os (c :: r) = ([], c :: r) := fun os ho => by
    induction os with
    | nil => rfl
    | cons o os ih =>
      rw [List.all_cons, Bool.and_eq_true] at ho
      unfold stripLifts
      rw [if_neg (by have := ho.1; simp at this; simpa using this)]
      exact ih ho.2
  exact hh liftWords h
theorem headLifts_of (hw : behindMainWord (wordsSigns P.initOrder.toList) = c :: r) (hs : stripLifts liftWords (c :: r) = ([], c :: r)) : P.headLifts = [] := by
  unfold Program.headLifts
  rw [hw]
  simp only [hs]
  split <;> rfl
theorem make_of (hw : behindMainWord (wordsSigns P.initOrder.toList) = c :: r) (hg : (c == "gc".toList || c == "spec".toList) = false) (hc : (c == "cut".toList) = true) : P.make = some .cut := by
  unfold Program.make
  rw [hw]
  dsimp only
  rw [hg, hc]
  rfl
theorem lifts_of (hw : behindMainWord (wordsSigns P.initOrder.toList) = c :: r) (hs : stripLifts liftWords (c :: r) = ([], c :: r)) (hc : (c == "carried".toList) = false) : P.liftsFinal = false := by
  have hl := headLifts_of hw hs
  unfold Program.liftsFinal
  rw [hl, hw]
  have : ((c :: r).head? == some "carried".toList) = false := hc
  dsimp only
  rw [this]
  rfl
theorem mayEnter_of (hw : behindMainWord (wordsSigns P.initOrder.toList) = c :: r) (hs : stripLifts liftWords (c :: r) = ([], c :: r)) (hc : (c == "cut".toList) = true) (h2 : P.laysLater = false) (h3 : P.bearsReflect = false) (h4 : P.doorFits [] = true) : P.mayEnter = true := by
  unfold Program.mayEnter
  rw [hw]
  dsimp only
  have h1 : ((c :: r).head? == some "cut".toList) = true := hc
  rw [hs]
  dsimp only
  rw [h1, h2, h3, h4]
  generalize (List.contains ([] : List String) "reflectrows") = x1
  rw [show (List.contains ([] : List String) "leanrows") = false from rfl]
  generalize (List.contains ([] : List String) "finals") = x3
  cases x1 <;> cases x3 <;> simp
end
end Go.Sx
