/- Part of the proof: SxHelp. -/
import Derived.Test.YtefmjmghkedciaaSxCall
set_option linter.unusedVariables false
set_option linter.unusedSimpArgs false
namespace Go.Sx
def tauE : List (Nat × Nat) -> Nat -> Nat
  | [], i => i
  | (k, j) :: r, i => bif Nat.beq k i then j else tauE r i
def tau (l : List (Nat × Nat)) (i : Nat) : Part := whole (tauE l i)
def allGe (n : Nat) : List (Nat × Nat) -> Bool
  | [] => true
  | (k, _) :: r => Nat.ble n k && allGe n r
theorem tau_fix {n : Nat} : ∀ {l : List (Nat × Nat)}, allGe n l = true -> ∀ i, i < n -> tau l i = whole i
  | [], _, i, _ => rfl
  | (k, j) :: r, h, i, hi => by
    simp only [allGe, Bool.and_eq_true] at h
    have h1 := Nat.le_of_ble_eq_true h.1
    have h2 := tau_fix h.2 i hi
    have hb : Nat.beq k i = false := by
      cases hb : Nat.beq k i
      · rfl
      · have := Nat.eq_of_beq_eq_true hb; omega
    simp only [tau, tauE, hb, cond_false]
    exact h2
theorem sub_tau {n0 : Nat} {e e' : Env} {H H' : Heap} (l : List (Nat × Nat)) (h1 : allGe n0 l = true) (h2 : n0 <= H'.next) (h3 : envSub (tau l) H'.next e e') (h5 : heapSub (tau l) H'.next H H'.ents) (h6 : injSub (tau l) H'.ents) :
    Sub n0 (tau l) e H e' H' := ⟨tau_fix h1, h2, h3, h5, h6⟩
theorem ishr_eq (k : IntKind) (a b : Int) (h : b.toNat <= k.bits) : ishr k a b = a / 2 ^ b.toNat := by
  unfold ishr
  rw [Nat.min_eq_left h, Int.fdiv_eq_ediv_of_nonneg _ (Int.pow_nonneg (by omega))]
theorem wrap_u8 (n : Int) : IntKind.u8.wrap n = n % 256 := by rw [IntKind.wrap_u8]
theorem wrap_u64 (n : Int) : IntKind.u64.wrap n = n % 18446744073709551616 := by
  simp [IntKind.wrap, IntKind.bits, IntKind.signed]
theorem wrap_i64 {n : Int} (h : -9223372036854775808 <= n) (h' : n <= 9223372036854775807) : IntKind.i64.wrap n = n := by rw [IntKind.wrap_i64]; omega
def Byt (xs : List Int) : Prop := ∀ x ∈ xs, 0 <= x /\ x < 256
def readB : List Int -> Int
  | [] => 0
  | x :: r => x + 256 * readB r
theorem Byt.take {xs : List Int} (h : Byt xs) (n : Nat) : Byt (xs.take n) := fun x hx => h x (List.mem_of_mem_take hx)
theorem Byt.drop {xs : List Int} (h : Byt xs) (n : Nat) : Byt (xs.drop n) := fun x hx => h x (List.mem_of_mem_drop hx)
theorem Byt.getD {xs : List Int} (h : Byt xs) (i : Nat) : 0 <= xs.getD i 0 /\ xs.getD i 0 < 256 := by
  rw [List.getD_eq_getElem?_getD]
  rcases Nat.lt_or_ge i xs.length with hi | hi
  · rw [List.getElem?_eq_getElem hi]; exact h _ (List.getElem_mem hi)
  · rw [List.getElem?_eq_none hi]; simp
end Go.Sx
