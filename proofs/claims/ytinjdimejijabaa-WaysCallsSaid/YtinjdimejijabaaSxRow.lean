/- Part of the proof: SxRow. -/
import Derived.Test.YtinjdimejijabaaSxTop
import Derived.Test.YtinjdimejijabaaSxEqT
import Derived.MapViews
set_option linter.unusedVariables false
set_option linter.unusedSimpArgs false
namespace Go.Sx
open Go.ChangeShapes Go.WideShapes Go.ChangeAt Go.RowKit
def ZJg : Option IntKind -> Value -> Prop
  | some k, v => ∃ n, v = .int k n /\ (Lit.int k n).wf = true
  | none, v => ∃ b, v = .bool b
def Zhh : List (Option IntKind) -> List Value -> Prop
  | [], [] => True
  | k :: l, v :: vs => ZJg k v /\ Zhh l vs
  | _, _ => False
theorem ZdW {k : Option IntKind} {l : List (Option IntKind)} : ∀ {cs : List Value}, Zhh (k :: l) cs -> ∃ v vs, cs = v :: vs /\ ZJg k v /\ Zhh l vs
  | [], h => h.elim
  | v :: vs, h => ⟨v, vs, rfl, h.1, h.2⟩
theorem ZgN : ∀ {cs : List Value}, Zhh [] cs -> cs = []
  | [], _ => rfl
  | _ :: _, h => h.elim
theorem Znk : ∀ {a b : List (Option IntKind)} {us vs : List Value}, Zhh a us -> Zhh b vs -> Zhh (a ++ b) (us ++ vs)
  | [], _, [], _, _, h => h
  | _ :: _, _, _ :: _, _, h, h' => ⟨h.1, Znk h.2 h'⟩
  | [], _, _ :: _, _, h, _ => h.elim
  | _ :: _, _, [], _, h, _ => h.elim
theorem Zhg {k : IntKind} {l : List (Option IntKind)} : ∀ {n : Nat} {cs : List Value}, Zhh (List.replicate n (some k) ++ l) cs -> ∃ xs vs, cs = Zav k n xs ++ vs /\ xs.length = n /\ (∀ x ∈ xs, (Lit.int k x).wf = true) /\ Zhh l vs
  | 0, cs, h => ⟨[], cs, by simp [Zav], rfl, fun x hx => (by cases hx), by simpa using h⟩
  | n + 1, cs, h => by
    rw [List.replicate_succ, List.cons_append] at h
    obtain ⟨v, vs, rfl, ⟨x, rfl, hw⟩, h'⟩ := ZdW h
    obtain ⟨xs, us, rfl, hl, hx, h⟩ := Zhg h'
    refine ⟨x :: xs, us, ?_, by simp [hl], fun y hy => ?_, h⟩
    · unfold Zav
      rw [List.range_succ_eq_map]
      simp [List.map_map]
    · rcases List.mem_cons.1 hy with rfl | hy
      · exact hw
      · exact hx y hy
theorem ZkM {α β : Type} {f : α -> Option β} : ∀ {l : List α} {r : List β}, l.mapM f = some r -> ∀ x ∈ l, ∃ y, f x = some y
  | [], _, _, x, hx => by cases hx
  | a :: l, r, h, x, hx => by
    rw [List.mapM_cons] at h
    simp only [bind, Option.bind_eq_some_iff] at h
    obtain ⟨y, hy, ys, hys, _⟩ := h
    rcases List.mem_cons.1 hx with rfl | hx
    · exact ⟨y, hy⟩
    · exact ZkM hys x hx
section
variable {P : Program}
variable {W : World} {H : Type} {enc : TypeId × Value -> H}
end
end Go.Sx
