/- Part of the proof: SxHelp. -/
import Derived.Test.YtfffjdfegnmejaaSxCall
set_option linter.unusedVariables false
set_option linter.unusedSimpArgs false
namespace Go.Sx
def ZyN : List (Nat × Nat) -> Nat -> Nat
  | [], i => i
  | (k, j) :: r, i => bif Nat.beq k i then j else ZyN r i
def tau (l : List (Nat × Nat)) (i : Nat) : Part := ZcY (ZyN l i)
def Zts (n : Nat) : List (Nat × Nat) -> Bool
  | [] => true
  | (k, _) :: r => Nat.ble n k && Zts n r
theorem ZoN {n : Nat} : ∀ {l : List (Nat × Nat)}, Zts n l = true -> ∀ i, i < n -> tau l i = ZcY i
  | [], _, i, _ => rfl
  | (k, j) :: r, h, i, hi => by
    simp only [Zts, Bool.and_eq_true] at h
    have h1 := Nat.le_of_ble_eq_true h.1
    have h2 := ZoN h.2 i hi
    have hb : Nat.beq k i = false := by
      cases hb : Nat.beq k i
      · rfl
      · have := Nat.eq_of_beq_eq_true hb; omega
    simp only [tau, ZyN, hb, cond_false]
    exact h2
theorem ZAD {n0 : Nat} {e e' : Env} {H H' : Heap} (l : List (Nat × Nat)) (h1 : Zts n0 l = true) (h2 : n0 <= H'.next) (h3 : Zdw (tau l) H'.next e e') (h5 : ZbI (tau l) H'.next H H'.ents) (h6 : Zip (tau l) H'.ents) :
    Sub n0 (tau l) e H e' H' := ⟨ZoN h1, h2, h3, h5, h6⟩
theorem Zxs (k : IntKind) (a b : Int) (h : b.toNat <= k.bits) : ZbF k a b = a / 2 ^ b.toNat := by
  unfold ZbF
  rw [Nat.min_eq_left h, Int.fdiv_eq_ediv_of_nonneg _ (Int.pow_nonneg (by omega))]
theorem wrap_u8 (n : Int) : IntKind.u8.wrap n = n % 256 := by rw [IntKind.wrap_u8]
theorem Zq8 (n : Int) : IntKind.u64.wrap n = n % 18446744073709551616 := by
  simp [IntKind.wrap, IntKind.bits, IntKind.signed]
theorem wrap_i64 {n : Int} (h : -9223372036854775808 <= n) (h' : n <= 9223372036854775807) : IntKind.i64.wrap n = n := by rw [IntKind.wrap_i64]; omega
def Byt (xs : List Int) : Prop := ∀ x ∈ xs, 0 <= x /\ x < 256
def ZHW : List Int -> Int
  | [] => 0
  | x :: r => x + 256 * ZHW r
theorem Byt.take {xs : List Int} (h : Byt xs) (n : Nat) : Byt (xs.take n) := fun x hx => h x (List.mem_of_mem_take hx)
theorem Byt.drop {xs : List Int} (h : Byt xs) (n : Nat) : Byt (xs.drop n) := fun x hx => h x (List.mem_of_mem_drop hx)
theorem Byt.getD {xs : List Int} (h : Byt xs) (i : Nat) : 0 <= xs.getD i 0 /\ xs.getD i 0 < 256 := by
  rw [List.getD_eq_getElem?_getD]
  rcases Nat.lt_or_ge i xs.length with hi | hi
  · rw [List.getElem?_eq_getElem hi]; exact h _ (List.getElem_mem hi)
  · rw [List.getElem?_eq_none hi]; simp
end Go.Sx
