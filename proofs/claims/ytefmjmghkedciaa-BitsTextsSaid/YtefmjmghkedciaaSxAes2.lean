/- Blocks, in plain Lean. -/
import Derived.Test.YtefmjmghkedciaaSxAes
set_option linter.unusedVariables false
set_option linter.unusedSimpArgs false
namespace Go.Sx
def BlkOk (b : List Int) : Prop := b.length = 16 ∧ Byt b
def KeysOk (b : List Int) : Prop := b.length = 176 ∧ Byt b
def hexC (j : Nat) : Int := (((⟨#[48, 49, 50, 51, 52, 53, 54, 55, 56, 57, 97, 98, 99, 100, 101, 102]⟩ : ByteArray).data.toList.getD j 0).toNat : Nat)
def digGo : Nat → Nat → Int → Int
  | 0, _, _ => -1
  | k + 1, j, c => if hexC j == c then j else digGo k (j + 1) c
def digF (c : Int) : Int := digGo 16 0 c
def xorL (s k : List Int) : List Int := (List.range 16).map fun i => ixor .u8 (s.getD i 0) (k.getD i 0)
def shiftL (s : List Int) : List Int := (List.range 16).map fun i => subB (s.getD ((i + 4 * (i % 4)) % 16) 0)
def colX (s : List Int) (c : Nat) : Int := ixor .u8 (ixor .u8 (ixor .u8 (s.getD (4 * c) 0) (s.getD (4 * c + 1) 0)) (s.getD (4 * c + 2) 0)) (s.getD (4 * c + 3) 0)
def mixF (s : List Int) (j : Nat) : Int := ixor .u8 (s.getD j 0) (ixor .u8 (colX s (j / 4)) (dbl (ixor .u8 (s.getD j 0) (s.getD (4 * (j / 4) + (j % 4 + 1) % 4) 0))))
def mixL (s : List Int) : List Int := (List.range 16).map (mixF s)
theorem getD_setI {l : List Int} {i j : Nat} {v : Int} (h : i < l.length) : (l.set i v).getD j 0 = if j = i then v else l.getD j 0 := by
  rw [List.getD_eq_getElem?_getD, List.getD_eq_getElem?_getD]
  by_cases hj : j = i
  · subst hj; rw [List.getElem?_set_self h, if_pos rfl]; rfl
  · rw [List.getElem?_set_ne (fun e => hj e.symm), if_neg hj]
theorem range_ext {l : List Int} {n : Nat} {f : Nat → Int} (hl : l.length = n) (h : ∀ j, j < n → l.getD j 0 = f j) : l = (List.range n).map f := by
  apply List.ext_getElem (by simp [hl])
  intro i h1 h2
  have := h i (by omega)
  rw [List.getD_eq_getElem?_getD, List.getElem?_eq_getElem h1] at this
  simpa using this
theorem range_getD {n j : Nat} {f : Nat → Int} (h : j < n) : ((List.range n).map f).getD j 0 = f j := by
  rw [List.getD_eq_getElem?_getD, List.getElem?_map, List.getElem?_range h]; rfl
theorem xorL_ok (s k : List Int) : BlkOk (xorL s k) := ⟨by simp [xorL], fun x hx => by
  unfold xorL at hx; obtain ⟨i, _, rfl⟩ := List.mem_map.1 hx; exact ixor_u8 _ _⟩
theorem sbox_byt : Byt sboxT ∧ sboxT.length = 256 := by
  constructor
  · unfold Byt; decide +kernel
  · decide +kernel
theorem subB_byte (x : Int) : 0 ≤ subB x ∧ subB x < 256 := getDb sbox_byt.1 _
theorem shiftL_ok (s : List Int) : BlkOk (shiftL s) := ⟨by simp [shiftL], fun x hx => by
  unfold shiftL at hx; obtain ⟨i, _, rfl⟩ := List.mem_map.1 hx; exact subB_byte _⟩
theorem mixL_ok (s : List Int) : BlkOk (mixL s) := ⟨by simp [mixL], fun x hx => by
  unfold mixL at hx; obtain ⟨i, _, rfl⟩ := List.mem_map.1 hx; exact ixor_u8 _ _⟩
theorem shift_ix : ∀ i, i < 16 → iand .i64 (IntKind.i64.wrap ((i : Nat) + IntKind.i64.wrap (4 * iand .i64 (i : Nat) 3))) 15 = (((i + 4 * (i % 4)) % 16 : Nat) : Int) := by decide +kernel
end Go.Sx
namespace Go.Sx
def kWord (a : List Int) (m : Int) : List Int := [ixor .u8 (subB (a.getD 13 0)) m, subB (a.getD 14 0), subB (a.getD 15 0), subB (a.getD 12 0)]
def kGo (a : List Int) (m : Int) : Nat → List Int × List Int
  | 0 => (kWord a m, [])
  | i + 1 => ((kGo a m i).1.set (i % 4) (ixor .u8 ((kGo a m i).1.getD (i % 4) 0) (a.getD i 0)), (kGo a m i).2 ++ [ixor .u8 ((kGo a m i).1.getD (i % 4) 0) (a.getD i 0)])
def kRun (key : List Int) : Nat → List Int × Int
  | 0 => (key, 1)
  | r + 1 => ((kRun key r).1 ++ (kGo ((kRun key r).1.drop (16 * r)) (kRun key r).2 16).2, dbl (kRun key r).2)
def keysL (key : List Int) : List Int := (kRun key 10).1
theorem kGo_len (a : List Int) (m : Int) : ∀ i, (kGo a m i).1.length = 4 ∧ (kGo a m i).2.length = i
  | 0 => ⟨rfl, rfl⟩
  | i + 1 => by have := kGo_len a m i; unfold kGo; simp [this.1, this.2]
theorem kGo_byt (a : List Int) (m : Int) : ∀ i, Byt (kGo a m i).2
  | 0 => fun x hx => by simp [kGo] at hx
  | i + 1 => fun x hx => by
    unfold kGo at hx
    rcases List.mem_append.1 hx with h | h
    · exact kGo_byt a m i x h
    · rw [List.mem_singleton.1 h]; exact ixor_u8 _ _
theorem kRun_ok {key : List Int} (h : BlkOk key) : ∀ r, (kRun key r).1.length = 16 * (r + 1) ∧ Byt (kRun key r).1 ∧ 0 ≤ (kRun key r).2 ∧ (kRun key r).2 < 256
  | 0 => ⟨h.1, h.2, by unfold kRun; omega⟩
  | r + 1 => by
    obtain ⟨h1, h2, h3⟩ := kRun_ok h r
    unfold kRun
    refine ⟨by rw [List.length_append, h1, (kGo_len _ _ _).2]; omega, fun x hx => ?_, dbl_byte _⟩
    rcases List.mem_append.1 hx with h | h
    · exact h2 x h
    · exact kGo_byt _ _ _ x h
theorem keysL_ok {key : List Int} (h : BlkOk key) : KeysOk (keysL key) := ⟨(kRun_ok h 10).1, (kRun_ok h 10).2.1⟩
theorem take_set1 {l : List Int} {n : Nat} {v : Int} (h : n < l.length) : List.take (n + 1) (l.set n v) = List.take n l ++ [v] := by
  rw [List.take_add_one, List.take_set_of_le (Nat.le_refl n), List.getElem?_set_self h]; rfl
theorem and3 : ∀ i, i < 16 → iand .i64 (i : Nat) 3 = ((i % 4 : Nat) : Int) := by decide +kernel
def stR (k b : List Int) : Nat → List Int
  | 0 => xorL b (k.take 16)
  | r + 1 => xorL (if r + 1 < 10 then mixL (shiftL (stR k b r)) else shiftL (stR k b r)) ((k.drop (16 * (r + 1))).take 16)
def encL (k b : List Int) : List Int := stR k b 10
theorem stR_ok (k b : List Int) : ∀ r, BlkOk (stR k b r)
  | 0 => xorL_ok _ _
  | _ + 1 => xorL_ok _ _
theorem key_ok {k : List Int} (h : KeysOk k) {r : Nat} (hr : r ≤ 10) : BlkOk ((k.drop (16 * r)).take 16) := ⟨by rw [List.length_take, List.length_drop, h.1]; omega, fun x hx => h.2 x (List.mem_of_mem_drop (List.mem_of_mem_take hx))⟩
end Go.Sx
