/- Two parts of the proof. -/
import Derived.Test.YtinjdimejijabaaSxOpX
import Derived.Test.YtinjdimejijabaaSxPutL
import Derived.Test.YtinjdimejijabaaSxFlat
set_option linter.unusedVariables false
set_option linter.unusedSimpArgs false
namespace Go.Sx
def ZOR : List Int := [99, 124, 119, 123, 242, 107, 111, 197, 48, 1, 103, 43, 254, 215, 171, 118, 202, 130, 201, 125, 250, 89, 71, 240, 173, 212, 162, 175, 156, 164, 114, 192, 183, 253, 147, 38, 54, 63, 247, 204, 52, 165, 229, 241, 113, 216, 49, 21, 4, 199, 35, 195, 24, 150, 5, 154, 7, 18, 128, 226, 235, 39, 178, 117, 9, 131, 44, 26, 27, 110, 90, 160, 82, 59, 214, 179, 41, 227, 47, 132, 83, 209, 0, 237, 32, 252, 177, 91, 106, 203, 190, 57, 74, 76, 88, 207, 208, 239, 170, 251, 67, 77, 51, 133, 69, 249, 2, 127, 80, 60, 159, 168, 81, 163, 64, 143, 146, 157, 56, 245, 188, 182, 218, 33, 16, 255, 243, 210, 205, 12, 19, 236, 95, 151, 68, 23, 196, 167, 126, 61, 100, 93, 25, 115, 96, 129, 79, 220, 34, 42, 144, 136, 70, 238, 184, 20, 222, 94, 11, 219, 224, 50, 58, 10, 73, 6, 36, 92, 194, 211, 172, 98, 145, 149, 228, 121, 231, 200, 55, 109, 141, 213, 78, 169, 108, 86, 244, 234, 101, 122, 174, 8, 186, 120, 37, 46, 28, 166, 180, 198, 232, 221, 116, 31, 75, 189, 139, 138, 112, 62, 181, 102, 72, 3, 246, 14, 97, 53, 87, 185, 134, 193, 29, 158, 225, 248, 152, 17, 105, 217, 142, 148, 155, 30, 135, 233, 206, 85, 40, 223, 140, 161, 137, 13, 191, 230, 66, 104, 65, 153, 45, 15, 176, 84, 187, 22]
attribute [irreducible] ZOR
end Go.Sx

namespace Go.Sx
theorem ZxU {l : List Int} {i j : Nat} {v : Int} (h : i < l.length) : (l.set i v).getD j 0 = if j = i then v else l.getD j 0 := by
  rw [List.getD_eq_getElem?_getD, List.getD_eq_getElem?_getD]
  by_cases hj : j = i
  · subst hj; rw [List.getElem?_set_self h, if_pos rfl]; rfl
  · rw [List.getElem?_set_ne (fun e => hj e.symm), if_neg hj]
theorem Zpl {l : List Int} {n : Nat} {f : Nat -> Int} (hl : l.length = n) (h : ∀ j, j < n -> l.getD j 0 = f j) : l = (List.range n).map f := by
  apply List.ext_getElem (by simp [hl])
  intro i h1 h2
  have := h i (by omega)
  rw [List.getD_eq_getElem?_getD, List.getElem?_eq_getElem h1] at this
  simpa using this
end Go.Sx
namespace Go.Sx
end Go.Sx

set_option linter.unusedVariables false
namespace Go.Sx
def flatB (ls : Lns) : List Int := List.flatten (α := Int) ls
theorem Zki : ∀ {ls : Lns}, (∀ l ∈ ls, List.length (α := Int) l = 32) -> (flatB ls).length = 32 * ls.length
  | [], _ => rfl
  | l :: r, h => by
    have := Zki (ls := r) fun x hx => h x (List.mem_cons_of_mem _ hx)
    have h1 := h l (List.mem_cons_self ..)
    unfold flatB at this ⊢
    rw [List.flatten_cons, List.length_append, this, h1, List.length_cons]; omega
theorem Zmf {ls : Lns} {k : Nat} (hk : k < ls.length) (v : List Int) : flatB (ls.set k v) = flatB (ls.take k) ++ v ++ flatB (ls.drop (k + 1)) /\ flatB ls = flatB (ls.take k) ++ lineAt ls k ++ flatB (ls.drop (k + 1)) := by
  have e1 : ls.set k v = ls.take k ++ v :: ls.drop (k + 1) := List.set_eq_take_append_cons_drop.trans (by rw [if_pos hk])
  have e2 : ls = ls.take k ++ lineAt ls k :: ls.drop (k + 1) := by
    have : lineAt ls k = ls[k] := by unfold lineAt; rw [List.getD_eq_getElem?_getD, List.getElem?_eq_getElem hk]; rfl
    rw [this, <- List.drop_eq_getElem_cons hk, List.take_append_drop]
  unfold flatB
  constructor
  · rw [e1, List.flatten_append, List.flatten_cons, List.append_assoc]
  · conv => lhs; rw [e2]
    rw [List.flatten_append, List.flatten_cons, List.append_assoc]
theorem LinesOk.at_ {p : PlanV} {ls : Lns} (h : LinesOk p ls) {k : Nat} (hk : k < p.all.toNat) : Zi4 (lineAt ls k) := by
  have hk2 : k < ls.length := by rw [h.1]; exact hk
  have : lineAt ls k = ls[k] := by unfold lineAt; rw [List.getD_eq_getElem?_getD, List.getElem?_eq_getElem hk2]; rfl
  rw [this]
  exact h.2 _ (List.getElem_mem hk2)
theorem LinesOk.len {p : PlanV} {ls : Lns} (h : LinesOk p ls) : ∀ l ∈ ls, List.length (α := Int) l = 32 := fun l hl => (h.2 l hl).1
theorem LinesOk.bytes {p : PlanV} {ls : Lns} (h : LinesOk p ls) : Zfj p (flatB ls) := by
  refine ⟨by rw [Zki h.len, h.1], fun x hx => ?_⟩
  obtain ⟨l, hl, hx⟩ := List.mem_flatten.1 hx
  exact (h.2 l hl).2 x hx
theorem ZxV {p : PlanV} {ls : Lns} (h : LinesOk p ls) {k : Nat} (hk : k < p.all.toNat) : List.take 32 (List.drop (32 * k) (flatB ls)) = lineAt ls k := by
  have hk2 : k < ls.length := by rw [h.1]; exact hk
  have hl := Zki (ls := ls.take k) fun x hx => h.len x (List.mem_of_mem_take hx)
  rw [List.length_take, Nat.min_eq_left (by omega)] at hl
  have l32 := (h.at_ hk).1
  rw [(Zmf hk2 []).2, List.append_assoc, List.drop_left' hl, List.take_left' l32]
theorem PlanV.all_sh {p : PlanV} (h : p.shaped = true) : 1 <= p.all /\ p.all <= 128 /\ p.all = p.pages * p.lines := by
  have hs := of_decide_eq_true h
  have e : p.all = p.pages * p.lines := if_pos h
  have h1 : p.pages * p.lines <= 16 * p.lines := Int.mul_le_mul_of_nonneg_right (by omega) (by omega)
  have h2 : 1 * p.lines <= p.pages * p.lines := Int.mul_le_mul_of_nonneg_right (by omega) (by omega)
  omega
theorem PlanV.all_bd (p : PlanV) : 0 <= p.all /\ p.all <= 128 := by
  by_cases h : p.shaped = true
  · have := all_sh h; omega
  · unfold all; rw [if_neg h]; omega
namespace PlanV
theorem opB_line {p : PlanV} {o : OpV} (h : p.opB o = true) : p.opLine o = o.oat / 32 /\ 0 <= o.oat / 32 /\ o.oat / 32 < p.all /\ p.opCode o = 0 /\ o.okind ≠ 6 /\ 0 <= o.oat /\ o.oat < p.tags := by
  have h' := h
  unfold opB at h'
  rw [Bool.and_eq_true, beq_iff_eq, Bool.not_eq_true', beq_eq_false_iff_ne] at h'
  have ha := opB_at h'.1 h'.2
  have e : p.opLine o = o.oat / 32 := if_pos h
  have ht : p.tags = p.all * 32 := rfl
  exact ⟨e, by omega, by omega, h'.1, h'.2, ha.1, ha.2⟩
theorem code_kind {p : PlanV} {o : OpV} (h : p.opCode o = 0) : p.right = true /\ 1 <= o.okind /\ o.okind <= 6 := by
  unfold opCode at h
  split at h
  · rename_i hr
    split at h
    · rename_i hk; exact ⟨hr, hk⟩
    · cases h
  · cases h
theorem byte_at {p : PlanV} {o : OpV} (h : p.byteB o = true) : p.opCode o = 0 /\ o.good = true /\ sizeB o.on = true /\ 0 <= o.oat /\ o.oat + o.on <= 32 * p.all /\ o.place = (o.oat % 32).toNat /\ o.oat % 32 + o.on <= 32 /\ p.opB o = true := by
  unfold byteB at h
  rw [Bool.and_eq_true, beq_iff_eq, decide_eq_true_iff] at h
  obtain ⟨hr, k1, k6⟩ := code_kind h.1
  have hc := h.1
  rw [opcE hr k1 h.2] at hc
  have hB : p.opB o = true := by unfold opB; rw [h.1, Bool.and_eq_true]; exact ⟨rfl, by rw [Bool.not_eq_true', beq_eq_false_iff_ne]; omega⟩
  unfold codeOf at hc
  rw [if_pos hr] at hc
  split at hc
  · rename_i hn
    split at hc
    · rename_i ha
      split at hc
      · rename_i hm
        have ht : p.tags = p.all * 32 := rfl
        have hs : sizeB o.on = true := by unfold sizeB; simp only [Bool.or_eq_true, beq_iff_eq]; omega
        have hg : o.good = true := by
          unfold OpV.good chgB
          rw [hs, Bool.true_and, Bool.or_eq_true, decide_eq_true_iff, beq_iff_eq]; omega
        have hp : o.oat + o.on <= 32 * p.all /\ o.oat % 32 + o.on <= 32 := by rcases hn with e | e | e | e <;> rw [e] at hm ⊢ <;> omega
        refine ⟨h.1, hg, hs, ha.1, hp.1, ?_, hp.2, hB⟩
        unfold OpV.place ZHb
        rw [Int.min_eq_left (by omega)]
      · cases hc
    · cases hc
  · cases hc
theorem flat_step {p : PlanV} {o : OpV} {ls : Lns} (h : LinesOk p ls) : flatB (p.flatL o ls) = p.byteL o (flatB ls) /\ p.flatR o ls = p.byteR o (flatB ls) /\ LinesOk p (p.flatL o ls) := by
  unfold flatL flatR byteL byteR
  by_cases hB : p.opB o = true
  · obtain ⟨e, k0, k1, hc, h6, a0, a1⟩ := opB_line hB
    have hk : (o.oat / 32).toNat < p.all.toNat := by omega
    have hk2 : (o.oat / 32).toNat < ls.length := by rw [h.1]; exact hk
    have lok := h.at_ hk
    have ok2 : LinesOk p (ls.set (o.oat / 32).toNat (o.next (lineAt ls (o.oat / 32).toNat))) := by
      refine ⟨by rw [List.length_set, h.1], fun l hl => ?_⟩
      rcases List.mem_or_eq_of_mem_set hl with h1 | h1
      · exact h.2 l h1
      · rw [h1]; exact OpV.next_ok lok
    rw [if_pos hB, if_pos hB]
    by_cases hb : p.byteB o = true
    · obtain ⟨_, hg, hs, _, hle, hp, hp2, _⟩ := byte_at hb
      rw [if_pos hb, if_pos hb]
      obtain ⟨s1, s2⟩ := Zmf hk2 (o.next (lineAt ls (o.oat / 32).toNat))
      have hA := Zki (ls := ls.take (o.oat / 32).toNat) fun x hx => h.len x (List.mem_of_mem_take hx)
      rw [List.length_take, Nat.min_eq_left (by omega)] at hA
      have hL := lok.1
      have hat : o.oat.toNat = 32 * (o.oat / 32).toNat + (o.oat % 32).toNat := by omega
      have hon : o.on.toNat <= 32 - (o.oat % 32).toNat := by have := (ZqS (at_ := o.oat) hs).2.2; omega
      have enext : o.next (lineAt ls (o.oat / 32).toNat) = o.nextAt (o.oat % 32).toNat (lineAt ls (o.oat / 32).toNat) := by rw [(OpV.next_good hg).1, hp]
      have eres : o.result (lineAt ls (o.oat / 32).toNat) = o.numAt (o.oat % 32).toNat (lineAt ls (o.oat / 32).toNat) := by rw [(OpV.next_good hg).2, hp]
      rw [enext] at s1 ok2 ⊢
      rw [eres, s1, s2]
      generalize flatB (ls.take (o.oat / 32).toNat) = A at *
      generalize flatB (ls.drop ((o.oat / 32).toNat + 1)) = B at *
      generalize lineAt ls (o.oat / 32).toNat = L at *
      generalize (o.oat % 32).toNat = j at *
      have d1 : ∀ m, m <= 32 -> List.drop (32 * (o.oat / 32).toNat + m) (A ++ L ++ B) = List.drop m L ++ B := fun m hm => by
        rw [List.append_assoc, <- hA, List.drop_append, List.drop_of_length_le (l := A) (by omega), show A.length + m - A.length = m by omega, List.nil_append, List.drop_append_of_le_length (by omega)]
      have enum : o.numAt o.oat.toNat (A ++ L ++ B) = o.numAt j L := by
        unfold OpV.numAt
        rw [hat, d1 j (by omega), List.take_append_of_le_length (by rw [List.length_drop]; omega)]
      refine ⟨?_, enum.symm, ok2⟩
      have eput : o.putAt o.oat.toNat (A ++ L ++ B) = o.putAt j L := by unfold OpV.putAt; rw [enum]
      unfold OpV.nextAt
      rw [eput]
      cases o.putAt j L with
      | none => rfl
      | some v =>
        show A ++ o.laid j L v ++ B = o.laid o.oat.toNat (A ++ L ++ B) v
        unfold OpV.laid
        have t1 : List.take o.oat.toNat (A ++ L ++ B) = A ++ List.take j L := by
          rw [hat, List.append_assoc, <- hA, List.take_append, List.take_of_length_le (l := A) (by omega), show A.length + j - A.length = j by omega, List.take_append_of_le_length (by omega)]
        have t2 : List.drop (o.oat.toNat + o.on.toNat) (A ++ L ++ B) = List.drop (j + o.on.toNat) L ++ B := by rw [hat, Nat.add_assoc]; exact d1 _ (by omega)
        rw [t1, t2]
        simp only [List.append_assoc]
    · rw [if_neg hb, if_neg hb]
      have hbad : o.good = false := by
        have hk4 : ¬ o.okind <= 4 := fun h4 => hb (by unfold byteB; rw [hc, decide_eq_true h4]; rfl)
        unfold OpV.good chgB
        rw [decide_eq_false (by omega), beq_eq_false_iff_ne.2 (by omega), Bool.or_self, Bool.and_false]
      have b1 := (OpV.next_bad (xs := lineAt ls (o.oat / 32).toNat) hbad)
      rw [<- b1.1, <- b1.2]
      have : ls.set (o.oat / 32).toNat (lineAt ls (o.oat / 32).toNat) = ls := by
        have : lineAt ls (o.oat / 32).toNat = ls[(o.oat / 32).toNat] := by unfold lineAt; rw [List.getD_eq_getElem?_getD, List.getElem?_eq_getElem hk2]; rfl
        rw [this, List.set_getElem_self]
      rw [this]
      exact ⟨rfl, rfl, h⟩
  · have hb : ¬ p.byteB o = true := fun h => hB (byte_at h).2.2.2.2.2.2.2
    rw [if_neg hB, if_neg hB, if_neg hb, if_neg hb]
    exact ⟨rfl, rfl, h⟩
theorem zero_ok (p : PlanV) : LinesOk p (ZbP p.all.toNat) := by
  refine ⟨by simp [ZbP], fun l hl => ?_⟩
  have := List.eq_of_mem_replicate hl
  subst this
  exact ⟨by show (List.replicate 32 (0 : Int)).length = 32; rfl, fun x hx => by have := List.eq_of_mem_replicate (a := (0 : Int)) (n := 32) hx; omega⟩
theorem zero_flat : ∀ n, flatB (ZbP n) = List.replicate (32 * n) 0
  | 0 => rfl
  | n + 1 => by
    have := zero_flat n
    unfold flatB ZbP at this ⊢
    rw [List.replicate_succ, List.flatten_cons, this, show 32 * (n + 1) = 32 + 32 * n by omega, <- List.replicate_append_replicate]
    rfl
theorem chk_any (p : PlanV) (es : List (Tup Zaa)) (ls : Lns) (a b : Int) : p.chkGo es ls 0 a = p.chkGo es ls 0 b := by
  cases es with
  | nil => rfl
  | cons e r =>
    unfold chkGo
    have : ∀ l : Int, (Zx3 e = false ∨ Zhy e <= ZuN e ∨ 0 < 0 /\ Zhy e <= l) ↔ (Zx3 e = false ∨ Zhy e <= ZuN e) := fun l => by simp
    simp only [this]
theorem chk_cond {x : Tup Zaa} {i : Nat} {last : Int} : ((!Zx3 x || decide (Zhy x <= ZuN x) || decide (0 < ((i : Nat) : Int)) && decide (Zhy x <= last)) = true) ↔ (Zx3 x = false ∨ Zhy x <= ZuN x ∨ 0 < i /\ Zhy x <= last) := by
  simp only [Bool.or_eq_true, Bool.and_eq_true, Bool.not_eq_true', decide_eq_true_iff, or_assoc]
  have : (0 < ((i : Nat) : Int)) ↔ 0 < i := by omega
  rw [this]
theorem chk_bad {p : PlanV} {x : Tup Zaa} {r : List (Tup Zaa)} {ls : Lns} {i : Nat} {last : Int} (h : Zx3 x = false ∨ Zhy x <= ZuN x ∨ 0 < i /\ Zhy x <= last) : p.chkGo (x :: r) ls i last = ((i : Int), 1) := by
  unfold chkGo; rw [if_pos h]
theorem chk_next {p : PlanV} {x : Tup Zaa} {r : List (Tup Zaa)} {ls : Lns} {i : Nat} {last : Int} (h : ¬ (Zx3 x = false ∨ Zhy x <= ZuN x ∨ 0 < i /\ Zhy x <= last)) :
    (p.opCode (Zci x) ≠ 0 -> p.chkGo (x :: r) ls i last = ((i : Int), 1)) /\ (p.opCode (Zci x) = 0 -> p.flatR (Zci x) ls ≠ Zu4 x -> p.chkGo (x :: r) ls i last = ((i : Int), 20)) /\
    (p.opCode (Zci x) = 0 -> p.flatR (Zci x) ls = Zu4 x -> p.chkGo (x :: r) ls i last = p.chkGo r (p.flatL (Zci x) ls) (i + 1) (Zhy x)) := by
  refine ⟨fun h1 => ?_, fun h1 h2 => ?_, fun h1 h2 => ?_⟩
  · rw [chkGo, if_neg h, if_pos h1]
  · rw [chkGo, if_neg h, if_neg (by simpa using h1), if_pos h2]
  · rw [chkGo, if_neg h, if_neg (by simpa using h1), if_neg (by simpa using h2)]
theorem chk_right {p : PlanV} (hr : p.right = true) (es : List (Tup Zaa)) : p.chkN es = (p.chkGo es (ZbP p.all.toNat) 0 0).1 /\ p.chkE es = (p.chkGo es (ZbP p.all.toNat) 0 0).2 := by
  unfold chkN chkE chk; rw [if_pos hr]; exact ⟨rfl, rfl⟩
theorem chk_wrong {p : PlanV} (hr : (!p.right) = true) (es : List (Tup Zaa)) : 0 = p.chkN es /\ 4 = p.chkE es := by
  have : p.right = false := by simpa using hr
  unfold chkN chkE chk; rw [if_neg (by rw [this]; decide)]; exact ⟨rfl, rfl⟩
end PlanV
theorem Znd {α : Type} {l : List α} {i : Nat} {d : α} (h : i < l.length) : List.drop i l = l.getD i d :: List.drop (i + 1) l /\ l.getD i d ∈ l := by
  rw [List.getD_eq_getElem?_getD, List.getElem?_eq_getElem h, List.drop_eq_getElem_cons h]
  exact ⟨rfl, List.getElem_mem h⟩
end Go.Sx
