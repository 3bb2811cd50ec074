/- Memory that nobody trusts, in plain Lean. -/
import Derived.Test.YtggpebgigddogaaSxOpX
import Derived.Test.YtggpebgigddogaaSxPut
import Derived.Test.YtggpebgigddogaaSxG
set_option linter.unusedVariables false
set_option linter.unusedSimpArgs false
namespace Go.Sx
structure DramV where
  bs : List Int
  op : List Int
  reads : Int
  writes : Int
  opens : Int
  drops : Int
deriving DecidableEq
namespace DramV
def there (len : Nat) (at_ n : Int) : Bool := decide (0 ≤ at_ ∧ 0 ≤ n ∧ n ≤ len ∧ at_ ≤ len - n)
def rowStep (s : List Int × Int) (r : Int) : List Int × Int := if s.1.getD (r % 4).toNat 0 = r + 1 then s else (s.1.set (r % 4).toNat (r + 1), s.2 + 1)
def rowsN (s : List Int × Int) (r : Int) : Nat → List Int × Int
  | 0 => s
  | k + 1 => rowStep (rowsN s r k) (r + k)
def rowCnt (at_ n : Int) : Nat := if n = 0 then 0 else ((at_ + n - 1) / 64 - at_ / 64 + 1).toNat
def rowsOf (m : DramV) (at_ n : Int) : List Int × Int := rowsN (m.op, m.opens) (at_ / 64) (rowCnt at_ n)
def rows (m : DramV) (at_ n : Int) : DramV := { m with op := (m.rowsOf at_ n).1, opens := (m.rowsOf at_ n).2 }
def writeE (m : DramV) (at_ : Int) (b : List Int) : Int := if there m.bs.length at_ b.length = true then 0 else 2
def write (m : DramV) (at_ : Int) (b : List Int) : DramV :=
  if there m.bs.length at_ b.length = true then
    (if 0 < m.drops then { m.rows at_ b.length with writes := m.writes + 1, drops := m.drops - 1 } else { m.rows at_ b.length with writes := m.writes + 1, bs := putN m.bs at_.toNat b })
  else m
def readE (m : DramV) (at_ n : Int) : Int := if there m.bs.length at_ n = true then 0 else 2
def read (m : DramV) (at_ n : Int) : DramV := if there m.bs.length at_ n = true then { m.rows at_ n with reads := m.reads + 1 } else m
def readL (m : DramV) (at_ n : Int) : List Int := if there m.bs.length at_ n = true then (m.bs.drop at_.toNat).take n.toNat else []
def newN (size : Int) : Nat := (min (max size 0) 1048576).toNat
def newL (size : Int) (first : List Int) : List Int := first.take (newN size) ++ List.replicate (newN size - first.length) 0
def flipE (m : DramV) (at_ : Int) : Int := gotE m.bs.length at_ 1
def flip (m : DramV) (at_ : Int) : DramV := if m.flipE at_ = 0 then { m with bs := putL m.bs at_ 1 (1 - gotL m.bs at_ 1) } else m
def tamE (m : DramV) (k at_ n : Int) : Int := if k = 2 then m.flipE at_ else if 0 ≤ n then 0 else 1
def tam (m : DramV) (k at_ n : Int) : DramV := if k = 2 then m.flip at_ else if 0 ≤ n then { m with drops := n } else m
/-- Memory as it is kept: its rows, what it counts. -/
def Ok (m : DramV) (n : Nat) : Prop := m.bs.length = n ∧ n ≤ 1000000 ∧ Byt m.bs ∧ m.op.length = 4 ∧ (∀ x ∈ m.op, 0 ≤ x ∧ x ≤ 1000000) ∧ (0 ≤ m.reads ∧ m.reads ≤ 1000000000000) ∧ (0 ≤ m.writes ∧ m.writes ≤ 1000000000000) ∧ (0 ≤ m.opens ∧ m.opens ≤ 1000000000000) ∧ 0 ≤ m.drops ∧ m.drops < 2 ^ 63
end DramV
end Go.Sx
namespace Go.Sx
namespace DramV
theorem rowStep_len (s : List Int × Int) (r : Int) : (rowStep s r).1.length = s.1.length := by unfold rowStep; split; rfl; simp
theorem rowStep_le (s : List Int × Int) (r : Int) : s.2 ≤ (rowStep s r).2 ∧ (rowStep s r).2 ≤ s.2 + 1 := by
  unfold rowStep
  split
  · omega
  · show s.2 ≤ s.2 + 1 ∧ s.2 + 1 ≤ s.2 + 1
    omega
theorem rowsN_len (s : List Int × Int) (r : Int) : ∀ k, (rowsN s r k).1.length = s.1.length
  | 0 => rfl
  | k + 1 => by rw [rowsN, rowStep_len, rowsN_len s r k]
theorem rowsN_le (s : List Int × Int) (r : Int) : ∀ k : Nat, s.2 ≤ (rowsN s r k).2 ∧ (rowsN s r k).2 ≤ s.2 + k
  | 0 => by simp [rowsN]
  | k + 1 => by
    have h1 := rowsN_le s r k
    have h2 := rowStep_le (rowsN s r k) (r + k)
    rw [rowsN]
    omega
theorem rowsN_mem (s : List Int × Int) (r : Int) (hr : 0 ≤ r) (h : ∀ x ∈ s.1, 0 ≤ x ∧ x ≤ 1000000) : ∀ k : Nat, r + k ≤ 1000000 → ∀ x ∈ (rowsN s r k).1, 0 ≤ x ∧ x ≤ 1000000
  | 0, _ => h
  | k + 1, hk => by
    have ih := rowsN_mem s r hr h k (by omega)
    rw [rowsN]
    unfold rowStep
    split
    · exact ih
    · intro x hx
      rcases List.mem_or_eq_of_mem_set hx with h1 | h1
      · exact ih x h1
      · rw [h1]; omega
theorem there_iff {len : Nat} {a n : Int} : there len a n = true ↔ 0 ≤ a ∧ 0 ≤ n ∧ n ≤ len ∧ a ≤ len - n := by unfold there; exact decide_eq_true_iff
theorem there_not {len : Nat} {a n : Int} (h : there len a n = false) : ¬ (0 ≤ a ∧ 0 ≤ n ∧ n ≤ len ∧ a ≤ len - n) := of_decide_eq_false h
theorem rowCnt_pos {a n : Int} (h : n ≠ 0) : rowCnt a n = ((a + n - 1) / 64 - a / 64 + 1).toNat := by unfold rowCnt; rw [if_neg h]
theorem newN_eq (size : Int) : (if (1048576 : Int) < (if size < 0 then 0 else size) then 1048576 else if size < 0 then 0 else size).toNat = newN size := by
  unfold newN
  congr 1
  split <;> split <;> omega
theorem newN_le (size : Int) : newN size ≤ 1048576 := by unfold newN; omega
theorem newL_length (size : Int) (first : List Int) : (newL size first).length = newN size := by unfold newL; simp; omega
theorem newL_byt {size : Int} {first : List Int} (h : Byt first) : Byt (newL size first) := fun x hx => by
  unfold newL at hx
  rw [List.mem_append] at hx
  rcases hx with hx | hx
  · exact h x (List.mem_of_mem_take hx)
  · have := List.eq_of_mem_replicate hx; omega
theorem rows_ok {m : DramV} {n : Nat} {a k : Int} (h : m.Ok n) (ht : there n a k = true) : (m.rows a k).Ok n ∨ 999999999990 ≤ m.opens + 20000 := by
  obtain ⟨h1, h2, h3, h4, h5, h6, h7, h8, h9⟩ := h
  have ht := there_iff.1 ht
  have hc : rowCnt a k ≤ 16385 := by
    unfold rowCnt
    split
    · omega
    · omega
  have hl := rowsN_le (m.op, m.opens) (a / 64) (rowCnt a k)
  have hm : a / 64 + rowCnt a k ≤ 1000000 := by omega
  by_cases hb : 999999999990 ≤ m.opens + 20000
  · exact .inr hb
  · refine .inl ⟨h1, h2, h3, ?_, ?_, h6, h7, ?_, h9⟩
    · exact (rowsN_len _ _ _).trans h4
    · exact rowsN_mem (m.op, m.opens) (a / 64) (by omega) h5 _ hm
    · show 0 ≤ (rowsN (m.op, m.opens) (a / 64) (rowCnt a k)).2 ∧ (rowsN (m.op, m.opens) (a / 64) (rowCnt a k)).2 ≤ 1000000000000
      simp only at hl
      omega
end DramV
end Go.Sx
namespace Go.Sx
theorem got1 (xs : List Int) (a : Int) : 0 ≤ gotL xs a 1 ∧ gotL xs a 1 ≤ 1 := by
  unfold gotL
  split
  · have := getB_lt xs a.toNat (Int.toNat 1)
    have e : (2 : Int) ^ (Int.toNat 1) = 2 := by decide
    rw [e] at this
    omega
  · omega
theorem gotE_zero {m : Nat} {a n : Int} (h : gotE m a n = 0) : thereB m a n = true := by
  unfold gotE at h
  split at h
  · assumption
  · omega
theorem putE1 {m : Nat} {a v : Int} (h : gotE m a 1 = 0) (hv : v ≤ 1) : putE m a 1 v = 0 := by
  unfold putE
  have e : (2 : Int) ^ (Int.toNat 1) = 2 := by decide
  rw [if_pos (gotE_zero h), e, if_pos (by omega)]
end Go.Sx
namespace Go.Sx
theorem splice {l ys : List Int} {n : Nat} (h : l.length = n) : List.take 0 l ++ ys ++ List.drop (0 + n) l = ys := by
  rw [List.take_zero, List.nil_append, Nat.zero_add, List.drop_of_length_le (by omega), List.append_nil]
theorem takeAll {l : List Int} {n : Nat} (h : l.length = n) : List.take n l = l := List.take_of_length_le (by omega)
instance (m : DramV) (n : Nat) : Decidable (m.Ok n) := by unfold DramV.Ok Byt; infer_instance
end Go.Sx
namespace Go.Sx
theorem iand31 (n : Int) : 0 ≤ iand .i64 n 31 ∧ iand .i64 n 31 ≤ 31 := by
  unfold iand
  have h : (BitVec.ofInt 64 n &&& BitVec.ofInt 64 31).toNat ≤ 31 := by
    rw [BitVec.toNat_and]
    exact Nat.le_trans Nat.and_le_right (by decide)
  show 0 ≤ IntKind.i64.wrap _ ∧ IntKind.i64.wrap _ ≤ 31
  have h2 : ((BitVec.ofInt (IntKind.i64.bits) n &&& BitVec.ofInt (IntKind.i64.bits) 31).toNat : Int) ≤ 31 := by
    have : IntKind.i64.bits = 64 := rfl
    exact_mod_cast h
  rw [wrap_i64 (by omega) (by omega)]
  omega
theorem putN_getD {b zs : List Int} {k i : Nat} (h : k + zs.length ≤ b.length) : (putN b k zs).getD i 0 = if k ≤ i ∧ i < k + zs.length then zs.getD (i - k) 0 else b.getD i 0 := by
  unfold putN
  simp only [List.getD_eq_getElem?_getD]
  by_cases h1 : i < k
  · rw [List.append_assoc, List.getElem?_append_left (by rw [List.length_take]; omega), List.getElem?_take_of_lt h1, if_neg (by omega)]
  · by_cases h2 : i < k + zs.length
    · rw [List.append_assoc, List.getElem?_append_right (by rw [List.length_take]; omega), List.getElem?_append_left (by rw [List.length_take]; omega), if_pos (by omega), List.length_take, Nat.min_eq_left (by omega)]
    · rw [List.getElem?_append_right (by rw [List.length_append, List.length_take]; omega), List.getElem?_drop, if_neg (by omega), List.length_append, List.length_take, Nat.min_eq_left (by omega)]
      congr 2
      omega
theorem putN_byt {b zs : List Int} {k : Nat} (hb : Byt b) (hz : Byt zs) : Byt (putN b k zs) := fun x hx => by
  unfold putN at hx
  rw [List.mem_append, List.mem_append] at hx
  rcases hx with (hx | hx) | hx
  · exact hb x (List.mem_of_mem_take hx)
  · exact hz x hx
  · exact hb x (List.mem_of_mem_drop hx)
namespace DramV
theorem rows_facts {m : DramV} {n : Nat} {a k : Int} (h : m.Ok n) (ht : there n a k = true) (ho : m.opens ≤ 100000000000) : (m.rows a k).Ok n ∧ m.opens ≤ (m.rows a k).opens ∧ (m.rows a k).opens ≤ m.opens + rowCnt a k := by
  refine ⟨(rows_ok h ht).resolve_right (by omega), ?_⟩
  exact rowsN_le (m.op, m.opens) (a / 64) (rowCnt a k)
theorem write_facts {m : DramV} {n : Nat} {a : Int} {b : List Int} (h : m.Ok n) (ht : there n a b.length = true) (hb : Byt b) (ho : m.opens ≤ 100000000000) (hw : m.writes ≤ 100000000000) :
    (m.write a b).Ok n ∧ m.opens ≤ (m.write a b).opens ∧ (m.write a b).opens ≤ m.opens + rowCnt a b.length ∧ (m.write a b).writes = m.writes + 1 ∧ (m.write a b).reads = m.reads ∧ m.writeE a b = 0 ∧
      (0 < m.drops → (m.write a b).drops = m.drops - 1 ∧ (m.write a b).bs = m.bs) ∧ (¬ 0 < m.drops → (m.write a b).drops = m.drops ∧ (m.write a b).bs = putN m.bs a.toNat b) := by
  have ht' : there m.bs.length a b.length = true := by rw [h.1]; exact ht
  have hti := there_iff.1 ht
  obtain ⟨hr, h1, h2⟩ := rows_facts h ht ho
  have hE : m.writeE a b = 0 := by unfold writeE; rw [if_pos ht']
  obtain ⟨q1, q2, q3, q4, q5, q6, q7, q8, q9, q10⟩ := hr
  by_cases hd : 0 < m.drops
  · have e : m.write a b = { m.rows a b.length with writes := m.writes + 1, drops := m.drops - 1 } := by unfold write; rw [if_pos ht', if_pos hd]
    rw [e]
    refine ⟨⟨q1, q2, q3, q4, q5, q6, ⟨?_, ?_⟩, q8, ?_, ?_⟩, h1, h2, rfl, rfl, hE, fun _ => ⟨rfl, rfl⟩, fun h => absurd hd h⟩
    · show 0 ≤ m.writes + 1
      have := h.2.2.2.2.2.2.1.1
      omega
    · show m.writes + 1 ≤ 1000000000000
      omega
    · show 0 ≤ m.drops - 1
      omega
    · show m.drops - 1 < 2 ^ 63
      have := h.2.2.2.2.2.2.2.2.2
      omega
  · have e : m.write a b = { m.rows a b.length with writes := m.writes + 1, bs := putN m.bs a.toNat b } := by unfold write; rw [if_pos ht', if_neg hd]
    rw [e]
    refine ⟨⟨?_, q2, putN_byt h.2.2.1 hb, q4, q5, q6, ⟨?_, ?_⟩, q8, q9, q10⟩, h1, h2, rfl, rfl, hE, fun h => absurd h hd, fun _ => ⟨rfl, rfl⟩⟩
    · show (putN m.bs a.toNat b).length = n
      rw [putN_length (by have := h.1; omega)]; exact h.1
    · show 0 ≤ m.writes + 1
      have := h.2.2.2.2.2.2.1.1
      omega
    · show m.writes + 1 ≤ 1000000000000
      omega
theorem init_ok {bs : List Int} {n : Nat} {d : Int} (hl : bs.length = n) (hn : n ≤ 1000000) (hb : Byt bs) (hd : 0 ≤ d) (hd2 : d < 2 ^ 63) : Ok ⟨bs, List.replicate 4 0, 0, 0, 0, d⟩ n :=
  ⟨hl, hn, hb, by simp, fun x hx => by have := List.eq_of_mem_replicate hx; omega, by simp, by simp, by simp, hd, hd2⟩
theorem byt_zero (n : Nat) : Byt (List.replicate n 0) := fun x hx => by have := List.eq_of_mem_replicate hx; omega
def dst (n : Int) : Nat → DramV
  | 0 => ⟨List.replicate 64 0, List.replicate 4 0, 0, 0, 0, n⟩
  | k + 1 => (dst n k).write k [7]
theorem dst_facts {n : Int} (h0 : 0 ≤ n) (h1 : n ≤ 31) : ∀ k : Nat, k ≤ 64 → (dst n k).Ok 64 ∧ (dst n k).opens ≤ k ∧ (dst n k).writes = k ∧ (dst n k).reads = 0 ∧ (dst n k).drops = (if (k : Int) ≤ n then n - k else 0) ∧
    ∀ i : Nat, i < 64 → (dst n k).bs.getD i 0 = if n ≤ i ∧ i < k then 7 else 0
  | 0, _ => by
    refine ⟨init_ok (by simp) (by omega) (byt_zero 64) h0 (by omega), Int.le_refl _, rfl, rfl, ?_, fun i hi => ?_⟩
    · show n = _
      rw [if_pos (by omega)]; omega
    · show (List.replicate 64 (0 : Int)).getD i 0 = _
      rw [if_neg (by omega), List.getD_eq_getElem?_getD, List.getElem?_replicate, if_pos hi]; rfl
  | k + 1, hk => by
    obtain ⟨g1, g2, g3, g4, g5, g6⟩ := dst_facts h0 h1 k (by omega)
    have ht : there 64 (k : Int) ([7] : List Int).length = true := there_iff.2 ⟨by omega, by simp, by simp, by simp; omega⟩
    have hb : Byt [7] := by unfold Byt; decide
    obtain ⟨w1, w2, w3, w4, w5, _, w6, w7⟩ := write_facts g1 ht hb (by omega) (by omega)
    have hc : rowCnt (k : Int) ([7] : List Int).length = 1 := by
      rw [rowCnt_pos (by simp)]
      simp
    rw [hc] at w3
    rw [dst]
    refine ⟨w1, by omega, by rw [w4, g3]; rfl, by rw [w5, g4], ?_, fun i hi => ?_⟩
    · by_cases hd : 0 < (dst n k).drops
      · rw [(w6 hd).1]
        rw [g5] at hd ⊢
        split at hd
        · rw [if_pos (by assumption), if_pos (by omega)]; omega
        · omega
      · rw [(w7 hd).1]
        rw [g5] at hd ⊢
        split at hd
        · rw [if_pos (by assumption), if_neg (by omega)]; omega
        · rw [if_neg (by assumption), if_neg (by omega)]
    · by_cases hd : 0 < (dst n k).drops
      · rw [(w6 hd).2, g6 i hi]
        rw [g5] at hd
        split at hd
        · rw [if_neg (by omega), if_neg (by omega)]
        · omega
      · rw [(w7 hd).2, putN_getD (by rw [g1.1]; simp; omega), g6 i hi]
        rw [g5] at hd
        simp only [List.length_cons, List.length_nil, Int.toNat_natCast]
        by_cases hik : i = k
        · subst hik
          rw [if_pos (by omega)]
          split at hd
          · rw [if_pos (by omega)]; simp
          · rw [if_pos (by omega)]; simp
        · rw [if_neg (by omega)]
          by_cases hin : n ≤ i ∧ i < k
          · rw [if_pos hin, if_pos (by omega)]
          · rw [if_neg hin, if_neg (by omega)]
end DramV
end Go.Sx
namespace Go.Sx
namespace DramV
theorem read_facts {m : DramV} {n : Nat} {a k : Int} (h : m.Ok n) (ht : there n a k = true) (ho : m.opens ≤ 100000000000) (hw : m.reads ≤ 100000000000) :
    (m.read a k).Ok n ∧ (m.read a k).reads = m.reads + 1 ∧ (m.read a k).writes = m.writes ∧ ((m.read a k).op, (m.read a k).opens) = m.rowsOf a k ∧ m.readE a k = 0 := by
  have ht' : there m.bs.length a k = true := by rw [h.1]; exact ht
  obtain ⟨hr, h1, h2⟩ := rows_facts h ht ho
  obtain ⟨q1, q2, q3, q4, q5, q6, q7, q8, q9, q10⟩ := hr
  have e : m.read a k = { m.rows a k with reads := m.reads + 1 } := by unfold read; rw [if_pos ht']
  rw [e]
  refine ⟨⟨q1, q2, q3, q4, q5, ⟨?_, ?_⟩, q7, q8, q9, q10⟩, rfl, rfl, rfl, by unfold readE; rw [if_pos ht']⟩
  · show 0 ≤ m.reads + 1
    have := h.2.2.2.2.2.1.1
    omega
  · show m.reads + 1 ≤ 1000000000000
    omega
theorem write_rows {m : DramV} {n : Nat} {a : Int} {b : List Int} (h : m.Ok n) (ht : there n a b.length = true) : ((m.write a b).op, (m.write a b).opens) = m.rowsOf a b.length := by
  have ht' : there m.bs.length a b.length = true := by rw [h.1]; exact ht
  unfold write
  rw [if_pos ht']
  split <;> rfl
def kOf (n : Int) : Nat := (if n < 0 then 0 else n).toNat
def stp (w : Bool) (a n : Int) (m : DramV) : DramV := if w = true then m.write a (List.replicate (kOf n) 0) else m.read a n
def stpE (w : Bool) (a n : Int) (m : DramV) : Int := if w = true then m.writeE a (List.replicate (kOf n) 0) else m.readE a n
def stpT (w : Bool) (N : Nat) (a n : Int) : Bool := there N a (if w = true then (kOf n : Int) else n)
theorem stp_bad {w : Bool} {a n : Int} {m : DramV} {N : Nat} (h : m.Ok N) (ht : stpT w N a n = false) : stp w a n m = m ∧ stpE w a n m = 2 := by
  unfold stpT at ht
  unfold stp stpE
  cases w with
  | true =>
    simp only [if_true] at ht ⊢
    have : there m.bs.length a ((List.replicate (kOf n) (0 : Int)).length : Nat) = false := by rw [h.1, List.length_replicate]; exact ht
    unfold write writeE
    rw [if_neg (by rw [this]; decide), if_neg (by rw [this]; decide)]
    exact ⟨rfl, rfl⟩
  | false =>
    simp only [Bool.false_eq_true, if_false] at ht ⊢
    have : there m.bs.length a n = false := by rw [h.1]; exact ht
    unfold read readE
    rw [if_neg (by rw [this]; decide), if_neg (by rw [this]; decide)]
    exact ⟨rfl, rfl⟩
theorem stp_good {w : Bool} {a n : Int} {m : DramV} {N : Nat} (h : m.Ok N) (ht : stpT w N a n = true) (ho : m.opens ≤ 100000000000) (hr : m.reads ≤ 100000000000) (hw : m.writes ≤ 100000000000) :
    (stp w a n m).Ok N ∧ stpE w a n m = 0 ∧ (stp w a n m).reads + (stp w a n m).writes = m.reads + m.writes + 1 ∧ (stp w a n m).reads ≤ m.reads + 1 ∧ (stp w a n m).writes ≤ m.writes + 1 ∧ ((stp w a n m).op, (stp w a n m).opens) = rowsN (m.op, m.opens) (a / 64) (rowCnt a (kOf n)) := by
  unfold stpT at ht
  unfold stp stpE
  cases w with
  | true =>
    simp only [if_true] at ht ⊢
    have ht' : there N a ((List.replicate (kOf n) (0 : Int)).length : Nat) = true := by rw [List.length_replicate]; exact ht
    have h1 := write_facts h ht' (byt_zero _) ho hw
    have h2 := write_rows h ht'
    rw [List.length_replicate] at h2
    exact ⟨h1.1, h1.2.2.2.2.2.1, by rw [h1.2.2.2.1, h1.2.2.2.2.1]; omega, by rw [h1.2.2.2.2.1]; omega, by rw [h1.2.2.2.1]; omega, h2⟩
  | false =>
    simp only [Bool.false_eq_true, if_false] at ht ⊢
    have h1 := read_facts h ht ho hr
    have hk : (kOf n : Int) = n := by
      have := (there_iff.1 ht).2.1
      unfold kOf
      rw [if_neg (by omega)]; omega
    rw [hk]
    exact ⟨h1.1, h1.2.2.2.2, by rw [h1.2.1, h1.2.2.1]; omega, by rw [h1.2.1]; omega, by rw [h1.2.2.1]; omega, h1.2.2.2.1⟩
theorem rowStep_hit {s : List Int × Int} {r : Int} (hl : s.1.length = 4) : (rowStep s r).1.getD (r % 4).toNat 0 = r + 1 := by
  unfold rowStep
  split
  · assumption
  · show (s.1.set (r % 4).toNat (r + 1)).getD (r % 4).toNat 0 = r + 1
    rw [List.getD_eq_getElem?_getD, List.getElem?_set_self (by omega)]; rfl
theorem rowStep_other {s : List Int × Int} {r : Int} {j : Nat} (hj : (r % 4).toNat ≠ j) : (rowStep s r).1.getD j 0 = s.1.getD j 0 := by
  unfold rowStep
  split
  · rfl
  · show (s.1.set (r % 4).toNat (r + 1)).getD j 0 = _
    rw [List.getD_eq_getElem?_getD, List.getElem?_set_ne hj, ← List.getD_eq_getElem?_getD]
theorem rowStep_same {s : List Int × Int} {r : Int} (h : s.1.getD (r % 4).toNat 0 = r + 1) : rowStep s r = s := if_pos h
theorem rowsN_twice {s : List Int × Int} {r : Int} (hl : s.1.length = 4) : ∀ k : Nat, k ≤ 2 → rowsN (rowsN s r k) r k = rowsN s r k
  | 0, _ => rfl
  | 1, _ => by
    simp only [rowsN, Int.natCast_zero, Int.add_zero]
    exact rowStep_same (rowStep_hit hl)
  | 2, _ => by
    simp only [rowsN, Int.natCast_zero, Int.add_zero, Int.natCast_one]
    have h1 : (rowStep s r).1.length = 4 := by rw [rowStep_len, hl]
    have hne : ((r + 1) % 4).toNat ≠ (r % 4).toNat := by omega
    have e1 : rowStep (rowStep (rowStep s r) (r + 1)) r = rowStep (rowStep s r) (r + 1) := rowStep_same (by rw [rowStep_other hne, rowStep_hit hl])
    rw [e1]
    exact rowStep_same (rowStep_hit h1)
  | k + 3, h => by omega
end DramV
end Go.Sx
namespace Go.Sx
namespace DramV
theorem kOf_nn (n : Int) : (kOf n : Int) = if n < 0 then 0 else n := by unfold kOf; split <;> omega
theorem rowCnt_le {a : Int} {n : Nat} : (rowCnt a n : Int) ≤ (n : Int) / 64 + 2 ∧ (n ≤ 64 → rowCnt a n ≤ 2) := by
  unfold rowCnt
  split
  · omega
  · omega
def us (w : Bool) (size a n : Int) : Nat → DramV
  | 0 => ⟨newL size [], List.replicate 4 0, 0, 0, 0, 0⟩
  | k + 1 => stp w a n (us w size a n k)
theorem us_facts (w : Bool) {size a n : Int} (hs : size ≤ 5000) (hn : n ≤ 5000) : ∀ k : Nat, k ≤ 1 → (us w size a n k).Ok (newN size) ∧ (us w size a n (k + 1)).Ok (newN size) ∧
    ((stpE w a n (us w size a n k) = 2 ∧ (us w size a n (k + 1)).reads = 0 ∧ (us w size a n (k + 1)).writes = 0 ∧ (us w size a n (k + 1)).opens = 0) ∨
     (stpE w a n (us w size a n k) = 0 ∧ (us w size a n (k + 1)).reads + (us w size a n (k + 1)).writes = k + 1 ∧ 0 ≤ (us w size a n k).opens ∧ (us w size a n k).opens ≤ (us w size a n (k + 1)).opens ∧
      (us w size a n (k + 1)).opens ≤ (us w size a n k).opens + ((kOf n : Int) / 64 + 2) ∧ (us w size a n k).opens ≤ 100 ∧ (k = 1 → n ≤ 64 → (us w size a n (k + 1)).opens = (us w size a n k).opens))) := by
  have hb : Byt (newL size []) := newL_byt (fun x hx => by simp at hx)
  have hN : newN size ≤ 5000 := by unfold newN; omega
  have o0 : (us w size a n 0).Ok (newN size) := init_ok (newL_length _ _) (by omega) hb (by omega) (by omega)
  have hc := rowCnt_le (a := a) (n := kOf n)
  have hk := kOf_nn n
  have hk5 : kOf n ≤ 5000 := by split at hk <;> omega
  by_cases ht : stpT w (newN size) a n = true
  · have g0 := stp_good o0 ht (by show (0 : Int) ≤ _; omega) (by show (0 : Int) ≤ _; omega) (by show (0 : Int) ≤ _; omega)
    obtain ⟨g1, g2, g3, g4, g5, g6⟩ := g0
    have e6 : (us w size a n 1).opens = (rowsN (List.replicate 4 0, 0) (a / 64) (rowCnt a (kOf n))).2 := (Prod.mk.inj g6).2
    have l6 := rowsN_le (List.replicate 4 0, 0) (a / 64) (rowCnt a (kOf n))
    rw [← e6] at l6
    have z0 : (us w size a n 0).opens = 0 := rfl
    have z1 : (us w size a n 0).reads = 0 := rfl
    have z2 : (us w size a n 0).writes = 0 := rfl
    have u1 : us w size a n 1 = stp w a n (us w size a n 0) := rfl
    rw [← u1] at g1 g3 g4 g5 g6
    simp only at l6
    intro k hk1
    match k, hk1 with
    | 0, _ => rw [Nat.zero_add]; exact ⟨o0, g1, .inr ⟨g2, by omega, by omega, by omega, by omega, by omega, fun h => absurd h (by decide)⟩⟩
    | 1, _ =>
      have h0 := stp_good g1 ht (by omega) (by omega) (by omega)
      obtain ⟨h1, h2, h3, h4, h5, h6⟩ := h0
      have u2 : us w size a n 2 = stp w a n (us w size a n 1) := rfl
      rw [← u2] at h3 h4 h5 h6
      have k6 := rowsN_le ((us w size a n 1).op, (us w size a n 1).opens) (a / 64) (rowCnt a (kOf n))
      rw [← h6] at k6
      simp only at k6
      rw [show (1 : Nat) + 1 = 2 from rfl]
      refine ⟨g1, h1, .inr ⟨h2, by omega, by omega, by omega, by omega, by omega, fun _ hn6 => ?_⟩⟩
      have hk6 : kOf n ≤ 64 := by split at hk <;> omega
      have tw := rowsN_twice (s := (List.replicate 4 0, 0)) (r := a / 64) (by simp) (rowCnt a (kOf n)) (hc.2 hk6)
      have g6' : ((us w size a n 1).op, (us w size a n 1).opens) = rowsN (List.replicate 4 0, 0) (a / 64) (rowCnt a (kOf n)) := g6
      rw [g6', tw, ← g6'] at h6
      exact (Prod.mk.inj h6).2
  · have ht : stpT w (newN size) a n = false := by simpa using ht
    have b0 := stp_bad o0 ht
    have u1 : us w size a n 1 = us w size a n 0 := b0.1
    have u2 : us w size a n 2 = us w size a n 0 := by show stp w a n (us w size a n 1) = _; rw [u1]; exact b0.1
    intro k hk1
    match k, hk1 with
    | 0, _ => exact ⟨o0, by rw [u1]; exact o0, .inl ⟨b0.2, by rw [u1]; exact ⟨rfl, rfl, rfl⟩⟩⟩
    | 1, _ => exact ⟨by rw [u1]; exact o0, by rw [u2]; exact o0, .inl ⟨by rw [u1]; exact b0.2, by rw [u2]; exact ⟨rfl, rfl, rfl⟩⟩⟩
theorem stp_w {a n : Int} (m : DramV) : m.write a (List.replicate (if n < 0 then 0 else n).toNat 0) = stp true a n m := rfl
theorem stp_we {a n : Int} (m : DramV) : m.writeE a (List.replicate (if n < 0 then 0 else n).toNat 0) = stpE true a n m := rfl
theorem stp_r {a n : Int} (m : DramV) : m.read a n = stp false a n m := rfl
theorem stp_re {a n : Int} (m : DramV) : m.readE a n = stpE false a n m := rfl
theorem read_bs (m : DramV) (a n : Int) : (m.read a n).bs = m.bs := by unfold read; split <;> rfl
theorem mk_bs {m : DramV} {bs : List Int} (h : bs = m.bs) : (⟨bs, m.op, m.reads, m.writes, m.opens, m.drops⟩ : DramV) = m := by subst h; rfl
end DramV
end Go.Sx
namespace Go.Sx
def xorOk (x b c : Nat) : Bool := let y := ixor .u8 x (ishl .u8 1 (b : Nat)); decide (0 ≤ y ∧ y < 256) && decide (bit8 y c = if c = b then 1 - bit8 x c else bit8 x c)
theorem xor_all : (List.range 256).all (fun x => (List.range 8).all fun b => (List.range 8).all fun c => xorOk x b c) = true := by decide +kernel
theorem xor8 {x : Int} {b : Nat} (h : 0 ≤ x ∧ x < 256) (hb : b < 8) : (0 ≤ ixor .u8 x (ishl .u8 1 (b : Nat)) ∧ ixor .u8 x (ishl .u8 1 (b : Nat)) < 256) ∧ ∀ c, c < 8 → bit8 (ixor .u8 x (ishl .u8 1 (b : Nat))) c = if c = b then 1 - bit8 x c else bit8 x c := by
  obtain ⟨n, rfl⟩ := Int.eq_ofNat_of_zero_le h.1
  have := List.all_eq_true.1 xor_all n (by simp; omega)
  have := List.all_eq_true.1 this b (by simp; omega)
  have hc : ∀ c, c < 8 → xorOk n b c = true := fun c hc => List.all_eq_true.1 this c (by simp; omega)
  simp only [xorOk, Bool.and_eq_true, decide_eq_true_eq] at hc
  exact ⟨(hc 0 (by omega)).1, fun c h => (hc c h).2⟩
theorem bitB_8 (xs : List Int) (i : Nat) {c : Nat} (h : c < 8) : bitB xs (8 * i + c) = bit8 (xs.getD i 0) c := by
  unfold bitB
  rw [show (8 * i + c) / 8 = i by omega, show (8 * i + c) % 8 = c by omega]
def flB (xs : List Int) (k : Nat) : List Int := setB xs k 1 (1 - getB xs k 1)
theorem flB_bit {xs : List Int} {k : Nat} (hk : k < 8 * xs.length) (j : Nat) : bitB (flB xs k) j = if j = k then 1 - bitB xs k else bitB xs j := by
  unfold flB
  rw [setB_bit (by omega)]
  unfold bitPut
  have hb := bitB_01 xs k
  by_cases h : j = k
  · subst h
    rw [if_pos (by omega), if_pos rfl, Nat.sub_self]
    simp only [getB, Nat.add_zero, Int.pow_zero]
    omega
  · rw [if_neg (by omega), if_neg h]
theorem flB_flB {xs : List Int} {k : Nat} (hb : Byt xs) (hk : k < 8 * xs.length) : flB (flB xs k) k = xs := by
  have hl : (flB xs k).length = xs.length := setB_length _ _ _ _
  refine byt_ext' hb (setB_byt _ _ _ _) ((setB_length _ _ _ _).trans hl) fun j => ?_
  rw [flB_bit (by rw [hl]; exact hk), flB_bit hk, flB_bit hk]
  by_cases h : j = k
  · subst h; rw [if_pos rfl, if_pos rfl]; omega
  · rw [if_neg h, if_neg h]
theorem getD_byt {xs : List Int} (hb : Byt xs) (i : Nat) : 0 ≤ xs.getD i 0 ∧ xs.getD i 0 < 256 := by
  by_cases h : i < xs.length
  · rw [List.getD_eq_getElem?_getD, List.getElem?_eq_getElem h]; exact hb _ (List.getElem_mem h)
  · rw [getD_out (by omega)]; omega
theorem flB_getD {xs : List Int} {k : Nat} (hb : Byt xs) (hk : k < 8 * xs.length) (i : Nat) : (flB xs k).getD i 0 = if i = k / 8 then ixor .u8 (xs.getD i 0) (ishl .u8 1 ((k % 8 : Nat) : Int)) else xs.getD i 0 := by
  have g1 := getD_byt (setB_byt xs k 1 (1 - getB xs k 1)) i
  have g2 := getD_byt hb i
  have hx := xor8 g2 (Nat.mod_lt k (by omega : 8 > 0))
  split
  · next h =>
    refine byte_ext hx.1 g1 fun c hc => ?_
    rw [hx.2 c hc, ← bitB_8 _ _ hc, ← bitB_8 _ _ hc]
    rw [flB_bit hk (8 * i + c)]
    by_cases h1 : c = k % 8
    · rw [if_pos (by omega), if_pos h1]; congr 2; omega
    · rw [if_neg (by omega), if_neg h1]
  · next h =>
    refine byte_ext g2 g1 fun c hc => ?_
    rw [← bitB_8 _ _ hc, ← bitB_8 _ _ hc]
    rw [flB_bit hk (8 * i + c), if_neg (by omega)]
namespace DramV
theorem flip_in {m : DramV} {N : Nat} {b : Int} (h : m.Ok N) (h0 : 0 ≤ b) (h1 : b < 8 * N) : m.tamE 2 b 0 = 0 ∧ m.tam 2 b 0 = { m with bs := flB m.bs b.toNat } ∧ (m.tam 2 b 0).Ok N := by
  have ht : thereB m.bs.length b 1 = true := by unfold thereB; rw [h.1]; exact decide_eq_true (by omega)
  have e0 : m.flipE b = 0 := by unfold flipE gotE; rw [if_pos ht]
  have e1 : m.tam 2 b 0 = { m with bs := flB m.bs b.toNat } := by
    have : m.tam 2 b 0 = m.flip b := if_pos rfl
    rw [this]
    unfold flip
    rw [if_pos e0]
    unfold putL gotL
    rw [if_pos ht]
    have hg : gotL m.bs b 1 = getB m.bs b.toNat 1 := by unfold gotL; rw [if_pos ht]; rfl
    rw [if_pos (putE1 e0 (by have := got1 m.bs b; rw [hg] at this; show 1 - getB m.bs b.toNat 1 ≤ 1; omega))]
    rfl
  refine ⟨(if_pos rfl).trans e0, e1, ?_⟩
  rw [e1]
  exact ⟨(setB_length _ _ _ _).trans h.1, h.2.1, setB_byt _ _ _ _, h.2.2.2⟩
theorem flip_out {m : DramV} {N : Nat} {b : Int} (h : m.Ok N) (h1 : b < 0 ∨ 8 * N ≤ b) : m.tamE 2 b 0 = 2 ∧ m.tam 2 b 0 = m := by
  have ht : ¬ thereB m.bs.length b 1 = true := by unfold thereB; rw [h.1]; intro h2; have := of_decide_eq_true h2; omega
  have e0 : m.flipE b = 2 := by unfold flipE gotE; rw [if_neg ht]
  refine ⟨(if_pos rfl).trans e0, (if_pos rfl).trans ?_⟩
  unfold flip
  rw [if_neg (by rw [e0]; decide)]
end DramV
end Go.Sx
