/- Part of the proof: SxHelp. -/
import Derived.Test.YtinjdimejijabaaSxCall
set_option linter.unusedVariables false
set_option linter.unusedSimpArgs false
namespace Go.Sx
def ZvE : List (Nat × Nat) -> Nat -> Nat
  | [], i => i
  | (k, j) :: r, i => bif Nat.beq k i then j else ZvE r i
def tau (l : List (Nat × Nat)) (i : Nat) : Part := Zd1 (ZvE l i)
def Znl (n : Nat) : List (Nat × Nat) -> Bool
  | [] => true
  | (k, _) :: r => Nat.ble n k && Znl n r
theorem Zkz {n : Nat} : ∀ {l : List (Nat × Nat)}, Znl n l = true -> ∀ i, i < n -> tau l i = Zd1 i
  | [], _, i, _ => rfl
  | (k, j) :: r, h, i, hi => by
    simp only [Znl, Bool.and_eq_true] at h
    have h1 := Nat.le_of_ble_eq_true h.1
    have h2 := Zkz h.2 i hi
    have hb : Nat.beq k i = false := by
      cases hb : Nat.beq k i
      · rfl
      · have := Nat.eq_of_beq_eq_true hb; omega
    simp only [tau, ZvE, hb, cond_false]
    exact h2
theorem ZyR {n0 : Nat} {K : SVal -> Heap -> Prop} {r r' : SVal} {H H' : Heap} (l : List (Nat × Nat)) (h1 : Znl n0 l = true) (h7 : K r' H') (h2 : n0 <= H'.next) (h3 : r = r'.ren (tau l)) (h4 : r'.bd H'.next)
    (h5 : ZbI (tau l) H'.next H H'.ents) (h6 : ZgB (tau l) H'.ents) : Ret n0 K r H := .inl ⟨tau l, r', H', Zkz h1, h2, h3, h4, h5, h6, h7⟩
theorem Zw2 {n0 : Nat} {e e' : Env} {H H' : Heap} (l : List (Nat × Nat)) (h1 : Znl n0 l = true) (h2 : n0 <= H'.next) (h3 : Zdu (tau l) H'.next e e') (h5 : ZbI (tau l) H'.next H H'.ents) (h6 : ZgB (tau l) H'.ents) :
    Sub n0 (tau l) e H e' H' := ⟨Zkz h1, h2, h3, h5, h6⟩
theorem wrap_i64 {n : Int} (h : -9223372036854775808 <= n) (h' : n <= 9223372036854775807) : IntKind.i64.wrap n = n := by rw [IntKind.wrap_i64]; omega
def Byt (xs : List Int) : Prop := ∀ x ∈ xs, 0 <= x /\ x < 256
def ZDM : List Int -> Int
  | [] => 0
  | x :: r => x + 256 * ZDM r
theorem Byt.take {xs : List Int} (h : Byt xs) (n : Nat) : Byt (xs.take n) := fun x hx => h x (List.mem_of_mem_take hx)
theorem Byt.drop {xs : List Int} (h : Byt xs) (n : Nat) : Byt (xs.drop n) := fun x hx => h x (List.mem_of_mem_drop hx)
theorem ZfC {xs : List Int} {i : Nat} (h : i < xs.length) : xs.take (i + 1) = xs.take i ++ [xs.getD i 0] := by
  rw [List.take_add_one, List.getElem?_eq_getElem h, List.getD_eq_getElem?_getD, List.getElem?_eq_getElem h]; rfl
theorem Byt.getD {xs : List Int} (h : Byt xs) (i : Nat) : 0 <= xs.getD i 0 /\ xs.getD i 0 < 256 := by
  rw [List.getD_eq_getElem?_getD]
  rcases Nat.lt_or_ge i xs.length with hi | hi
  · rw [List.getElem?_eq_getElem hi]; exact h _ (List.getElem_mem hi)
  · rw [List.getElem?_eq_none hi]; simp
def I64 (n : Int) : Prop := -9223372036854775808 <= n /\ n <= 9223372036854775807
end Go.Sx
