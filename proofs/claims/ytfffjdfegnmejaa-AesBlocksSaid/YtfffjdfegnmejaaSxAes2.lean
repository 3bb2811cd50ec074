/- Part of the proof: SxAes2. -/
import Derived.Test.YtfffjdfegnmejaaSxAes
set_option linter.unusedVariables false
set_option linter.unusedSimpArgs false
namespace Go.Sx
def Zaz (b : List Int) : Prop := b.length = 16 /\ Byt b
def Zhd (b : List Int) : Prop := b.length = 176 /\ Byt b
def ZMV (j : Nat) : Int := (((⟨#[48, 49, 50, 51, 52, 53, 54, 55, 56, 57, 97, 98, 99, 100, 101, 102]⟩ : ByteArray).data.toList.getD j 0).toNat : Nat)
def ZjR : Nat -> Nat -> Int -> Int
  | 0, _, _ => -1
  | k + 1, j, c => if ZMV j == c then j else ZjR k (j + 1) c
def ZfF (c : Int) : Int := ZjR 16 0 c
def ZdX (s k : List Int) : List Int := (List.range 16).map fun i => Zar .u8 (s.getD i 0) (k.getD i 0)
def Za7 (s : List Int) : List Int := (List.range 16).map fun i => ZcR (s.getD ((i + 4 * (i % 4)) % 16) 0)
def ZMW (s : List Int) (c : Nat) : Int := Zar .u8 (Zar .u8 (Zar .u8 (s.getD (4 * c) 0) (s.getD (4 * c + 1) 0)) (s.getD (4 * c + 2) 0)) (s.getD (4 * c + 3) 0)
def Ztv (s : List Int) (j : Nat) : Int := Zar .u8 (s.getD j 0) (Zar .u8 (ZMW s (j / 4)) (dbl (Zar .u8 (s.getD j 0) (s.getD (4 * (j / 4) + (j % 4 + 1) % 4) 0))))
def Zf5 (s : List Int) : List Int := (List.range 16).map (Ztv s)
theorem Zca {l : List Int} {i j : Nat} {v : Int} (h : i < l.length) : (l.set i v).getD j 0 = if j = i then v else l.getD j 0 := by
  rw [List.getD_eq_getElem?_getD, List.getD_eq_getElem?_getD]
  by_cases hj : j = i
  · subst hj; rw [List.getElem?_set_self h, if_pos rfl]; rfl
  · rw [List.getElem?_set_ne (fun e => hj e.symm), if_neg hj]
theorem Zbs {l : List Int} {n : Nat} {f : Nat -> Int} (hl : l.length = n) (h : ∀ j, j < n -> l.getD j 0 = f j) : l = (List.range n).map f := by
  apply List.ext_getElem (by simp [hl])
  intro i h1 h2
  have := h i (by omega)
  rw [List.getD_eq_getElem?_getD, List.getElem?_eq_getElem h1] at this
  simpa using this
theorem ZcU {n j : Nat} {f : Nat -> Int} (h : j < n) : ((List.range n).map f).getD j 0 = f j := by
  rw [List.getD_eq_getElem?_getD, List.getElem?_map, List.getElem?_range h]; rfl
theorem ZtA (s k : List Int) : Zaz (ZdX s k) := ⟨by simp [ZdX], fun x hx => by
  unfold ZdX at hx; obtain ⟨i, _, rfl⟩ := List.mem_map.1 hx; exact Zc4 _ _⟩
theorem sbox_byt : Byt sboxT /\ sboxT.length = 256 := by
  constructor
  · unfold Byt; decide +kernel
  · decide +kernel
theorem ZuH (x : Int) : 0 <= ZcR x /\ ZcR x < 256 := Zob sbox_byt.1 _
theorem ZeX (s : List Int) : Zaz (Za7 s) := ⟨by simp [Za7], fun x hx => by
  unfold Za7 at hx; obtain ⟨i, _, rfl⟩ := List.mem_map.1 hx; exact ZuH _⟩
theorem ZoU (s : List Int) : Zaz (Zf5 s) := ⟨by simp [Zf5], fun x hx => by
  unfold Zf5 at hx; obtain ⟨i, _, rfl⟩ := List.mem_map.1 hx; exact Zc4 _ _⟩
theorem ZyV : ∀ i, i < 16 -> ZaR .i64 (IntKind.i64.wrap ((i : Nat) + IntKind.i64.wrap (4 * ZaR .i64 (i : Nat) 3))) 15 = (((i + 4 * (i % 4)) % 16 : Nat) : Int) := by decide +kernel
end Go.Sx
namespace Go.Sx
def ZEy (a : List Int) (m : Int) : List Int := [Zar .u8 (ZcR (a.getD 13 0)) m, ZcR (a.getD 14 0), ZcR (a.getD 15 0), ZcR (a.getD 12 0)]
def kGo (a : List Int) (m : Int) : Nat -> List Int × List Int
  | 0 => (ZEy a m, [])
  | i + 1 => ((kGo a m i).1.set (i % 4) (Zar .u8 ((kGo a m i).1.getD (i % 4) 0) (a.getD i 0)), (kGo a m i).2 ++ [Zar .u8 ((kGo a m i).1.getD (i % 4) 0) (a.getD i 0)])
def ZdY (key : List Int) : Nat -> List Int × Int
  | 0 => (key, 1)
  | r + 1 => ((ZdY key r).1 ++ (kGo ((ZdY key r).1.drop (16 * r)) (ZdY key r).2 16).2, dbl (ZdY key r).2)
def ZfP (key : List Int) : List Int := (ZdY key 10).1
theorem ZlI (a : List Int) (m : Int) : ∀ i, (kGo a m i).1.length = 4 /\ (kGo a m i).2.length = i
  | 0 => ⟨rfl, rfl⟩
  | i + 1 => by have := ZlI a m i; unfold kGo; simp [this.1, this.2]
theorem Zw1 (a : List Int) (m : Int) : ∀ i, Byt (kGo a m i).2
  | 0 => fun x hx => by simp [kGo] at hx
  | i + 1 => fun x hx => by
    unfold kGo at hx
    rcases List.mem_append.1 hx with h | h
    · exact Zw1 a m i x h
    · rw [List.mem_singleton.1 h]; exact Zc4 _ _
theorem Zd6 {key : List Int} (h : Zaz key) : ∀ r, (ZdY key r).1.length = 16 * (r + 1) /\ Byt (ZdY key r).1 /\ 0 <= (ZdY key r).2 /\ (ZdY key r).2 < 256
  | 0 => ⟨h.1, h.2, by unfold ZdY; omega⟩
  | r + 1 => by
    obtain ⟨h1, h2, h3⟩ := Zd6 h r
    unfold ZdY
    refine ⟨by rw [List.length_append, h1, (ZlI _ _ _).2]; omega, fun x hx => ?_, ZiI _⟩
    rcases List.mem_append.1 hx with h | h
    · exact h2 x h
    · exact Zw1 _ _ _ x h
theorem ZlF {key : List Int} (h : Zaz key) : Zhd (ZfP key) := ⟨(Zd6 h 10).1, (Zd6 h 10).2.1⟩
theorem ZuF {l : List Int} {n : Nat} {v : Int} (h : n < l.length) : List.take (n + 1) (l.set n v) = List.take n l ++ [v] := by
  rw [List.take_add_one, List.take_set_of_le (Nat.le_refl n), List.getElem?_set_self h]; rfl
theorem ZO1 : ∀ i, i < 16 -> ZaR .i64 (i : Nat) 3 = ((i % 4 : Nat) : Int) := by decide +kernel
def stR (k b : List Int) : Nat -> List Int
  | 0 => ZdX b (k.take 16)
  | r + 1 => ZdX (if r + 1 < 10 then Zf5 (Za7 (stR k b r)) else Za7 (stR k b r)) ((k.drop (16 * (r + 1))).take 16)
def ZdO (k b : List Int) : List Int := stR k b 10
theorem ZkA (k b : List Int) : ∀ r, Zaz (stR k b r)
  | 0 => ZtA _ _
  | _ + 1 => ZtA _ _
theorem ZwY {k : List Int} (h : Zhd k) {r : Nat} (hr : r <= 10) : Zaz ((k.drop (16 * r)).take 16) := ⟨by rw [List.length_take, List.length_drop, h.1]; omega, fun x hx => h.2 x (List.mem_of_mem_drop (List.mem_of_mem_take hx))⟩
end Go.Sx
