/- Part of the proof: SxFlat4. -/
import Derived.Test.YtinjdimejijabaaSxFlat2
set_option linter.unusedVariables false
namespace Go.Sx
namespace PlanV
theorem flatR_ran {p : PlanV} {o : OpV} {ls : Lns} (h : LinesOk p ls) : 0 <= p.flatR o ls /\ p.flatR o ls < 2 ^ 64 := by
  unfold flatR
  by_cases hB : p.opB o = true
  · obtain ⟨_, k0, k1, _⟩ := opB_line hB
    have lok := h.at_ (k := (o.oat / 32).toNat) (by omega)
    rw [if_pos hB]
    unfold OpV.result
    by_cases hg : o.good = true
    · rw [if_pos hg]
      exact OpV.numAt_range (OpV.good_true hg).1 lok.2
    · rw [if_neg hg]; omega
  · rw [if_neg hB]; omega
def FrontOk (p : PlanV) (D : List (Tup Zaa)) (i : Nat) (ls : Lns) : Prop := D.length <= i /\ Zgg D /\
  (∃ last : Int, (D = [] ∨ last < 2 * i) /\ ∀ r, p.chkGo (D ++ r) (Zcy p.all.toNat) 0 0 = p.chkGo r ls D.length last) /\
  ∀ k : Nat, k <= D.length -> p.chkGo (D.take k) (Zcy p.all.toNat) 0 0 = ((k : Int), 0)
theorem front_zero (p : PlanV) : FrontOk p [] 0 (Zcy p.all.toNat) :=
  ⟨Nat.le_refl _, fun x hx => by simp at hx, ⟨0, .inl rfl, fun r => rfl⟩, fun k hk => by
    have : k = 0 := by simpa using hk
    subst this
    rfl⟩
theorem front_skip {p : PlanV} {D : List (Tup Zaa)} {i : Nat} {ls : Lns} (h : FrontOk p D i ls) : FrontOk p D (i + 1) ls := by
  obtain ⟨h1, h2, ⟨last, h3, h4⟩, h5⟩ := h
  exact ⟨by omega, h2, ⟨last, h3.elim .inl fun h => .inr (by omega), h4⟩, h5⟩
theorem Zlj {D : List (Tup Zaa)} {i : Nat} {e : Tup Zaa} {last : Int} (h3 : D = [] ∨ last < 2 * i) (hD : Zph e = true) (hB : Zox e = 2 * i) (hE : Zhm e = 2 * i + 1) :
    ¬ (Zph e = false ∨ Zhm e <= Zox e ∨ 0 < D.length /\ Zhm e <= last) := by
  rintro (h | h | ⟨h, h'⟩)
  · rw [hD] at h; cases h
  · rw [hB, hE] at h; omega
  · rcases h3 with h4 | h4
    · rw [h4] at h; simp at h
    · omega
theorem front_step {p : PlanV} {D : List (Tup Zaa)} {i : Nat} {ls : Lns} {e : Tup Zaa} (h : FrontOk p D i ls) (he : Zn8 e) (hD : Zph e = true) (hB : Zox e = 2 * i) (hE : Zhm e = 2 * i + 1)
    (hc : p.opCode (Zdw e) = 0) (hR : p.flatR (Zdw e) ls = ZrT e) : FrontOk p (D ++ [e]) (i + 1) (p.flatL (Zdw e) ls) := by
  obtain ⟨h1, h2, ⟨last, h3, h4⟩, h5⟩ := h
  have nb := Zlj (D := D) h3 hD hB hE
  have step : ∀ r, p.chkGo (e :: r) ls D.length last = p.chkGo r (p.flatL (Zdw e) ls) (D.length + 1) (Zhm e) := fun r => (chk_next nb).2.2 hc hR
  have all : ∀ r, p.chkGo (D ++ [e] ++ r) (Zcy p.all.toNat) 0 0 = p.chkGo r (p.flatL (Zdw e) ls) (D ++ [e]).length (Zhm e) := fun r => by
    rw [List.append_assoc, List.cons_append, List.nil_append, h4, step, List.length_append]; rfl
  refine ⟨by rw [List.length_append]; simp; omega, fun x hx => ?_, ⟨Zhm e, .inr (by rw [hE]; omega), all⟩, fun k hk => ?_⟩
  · rcases List.mem_append.1 hx with hx | hx
    · exact h2 x hx
    · rw [List.mem_singleton.1 hx]; exact he
  · by_cases hkl : k <= D.length
    · rw [List.take_append_of_le_length hkl]; exact h5 k hkl
    · have hk2 : k = (D ++ [e]).length := by rw [List.length_append] at hk ⊢; simp at hk ⊢; omega
      rw [hk2, List.take_of_length_le (Nat.le_refl _)]
      have := all []
      rw [List.append_nil] at this
      rw [this]; rfl
theorem front_late {p : PlanV} (hr : p.right = true) {D : List (Tup Zaa)} {i : Nat} {ls : Lns} {e : Tup Zaa} (h : FrontOk p D i ls) (hD : Zph e = true) (hB : Zox e = 2 * i) (hE : Zhm e = 2 * i + 1)
    (hk : (Zdw e).okind = 6) (hR : ZrT e = 1) : p.chkN (D ++ [e]) = D.length /\ p.chkE (D ++ [e]) = 20 := by
  obtain ⟨h1, h2, ⟨last, h3, h4⟩, h5⟩ := h
  have nb := Zlj (D := D) h3 hD hB hE
  have hc : p.opCode (Zdw e) = 0 := opc0 hr hk
  have hf : p.flatR (Zdw e) ls ≠ ZrT e := by
    have : p.flatR (Zdw e) ls = 0 := by
      unfold flatR
      rw [if_neg]
      intro hB
      exact (opB_line hB).2.2.2.2.1 hk
    rw [this, hR]; decide
  obtain ⟨hN, hE'⟩ := chk_right hr (D ++ [e])
  rw [hN, hE', h4, (chk_next nb).2.1 hc hf]
  exact ⟨rfl, rfl⟩
theorem front_take {p : PlanV} (hr : p.right = true) {D : List (Tup Zaa)} {i : Nat} {ls : Lns} (h : FrontOk p D i ls) {k : Nat} (hk : k <= D.length) : p.chkN (D.take k) = (k : Int) /\ p.chkE (D.take k) = 0 /\ Zgg (D.take k) := by
  obtain ⟨hN, hE⟩ := chk_right hr (D.take k)
  rw [hN, hE, h.2.2.2 k hk]
  exact ⟨rfl, rfl, fun x hx => h.2.1 x (List.mem_of_mem_take hx)⟩
end PlanV
theorem ZrJ (a : Int) : 0 <= Zgz .i64 a 65535 /\ Zgz .i64 a 65535 < 65536 := by
  have := ZhJ a 16 64 (by omega)
  have h0 := Int.emod_nonneg a (show (65536 : Int) ≠ 0 by omega)
  have h1 := Int.emod_lt_of_pos a (show (0 : Int) < 65536 by omega)
  have h7 : (65535 : Int) = ((2 ^ 16 - 1 : Nat) : Int) := by decide
  rw [h7]
  unfold Zgz
  generalize ((2 ^ 16 - 1 : Nat) : Int) = z at *
  change 0 <= IntKind.i64.wrap (((BitVec.ofInt 64 a &&& BitVec.ofInt 64 z).toNat : Nat) : Int) /\ IntKind.i64.wrap (((BitVec.ofInt 64 a &&& BitVec.ofInt 64 z).toNat : Nat) : Int) < 65536
  rw [this, show ((2 ^ 16 : Nat) : Int) = 65536 from rfl, Int.toNat_of_nonneg h0, wrap_i64 (by omega) (by omega)]
  omega
end Go.Sx
