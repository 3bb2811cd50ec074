/- Part of the proof: SxMix. -/
import Derived.OrdersHeld
set_option linter.unusedVariables false
set_option linter.unusedSimpArgs false
namespace Go.Sx
section
variable {P : Program} {ops : Array Oper} {Q : Exit -> Act -> World -> Prop} {md : Region.Mode} {S : Array Bool -> World -> Prop}
def Shut (md : Region.Mode) (ops : Array Oper) (listed : Array Bool) : Prop := ∀ (j : Nat) (o : Oper), ops[j]? = some o -> listed.getD j true = true -> ∀ e ∈ o.after, Region.binds md e = true -> listed.getD e.on false = true
theorem Shut.add {listed : Array Bool} (h : Shut md ops listed) {i : Nat} (hr : i ∈ Region.ready md ops listed) : Shut md ops (listed.setIfInBounds i true) := by
  intro j o ho hj e he hb
  by_cases hji : i = j
  · subst hji
    obtain ⟨_, o', ho', hall⟩ := mem_ready.1 hr
    rw [ho] at ho'
    cases ho'
    exact getD_set_true (hall e he hb)
  · rw [getD_set_ne true hji] at hj
    exact getD_set_true (h j o ho hj e he hb)
def ZeI (P : Program) (md : Region.Mode) (ops : Array Oper) (Q : Exit -> Act -> World -> Prop) (S : Array Bool -> World -> Prop) : Nat -> Array Bool -> Act -> World -> Prop
  | 0, listed, a, w => Region.ready md ops listed = [] /\ Q .normal a w
  | fuel + 1, listed, a, w => (Region.ready md ops listed = [] -> Q .normal a w) /\
    ∀ i ∈ Region.ready md ops listed, wpOp P ops Q i (fun a' w' => S (listed.setIfInBounds i true) w' /\ ZeI P md ops Q S fuel (listed.setIfInBounds i true) a' w') a w
theorem Zhg : ∀ (fuel : Nat) (listed : Array Bool) (a : Act) (w : World), ZeI P md ops Q S fuel listed a w -> wpAny P md ops Q fuel listed a w
  | 0, _, _, _, h => h
  | fuel + 1, _, _, _, h => ⟨h.1, fun i hi => wpOp_mono (fun a' w' h' => Zhg fuel _ a' w' h'.2) (h.2 i hi)⟩
theorem Zck {S' : Array Bool -> World -> Prop} (I : Array Bool -> Prop) (hI : ∀ listed i, I listed -> I (listed.setIfInBounds i true)) (hS : ∀ listed w, I listed -> S' listed w -> S listed w) :
    ∀ (fuel : Nat) (listed : Array Bool) (a : Act) (w : World), I listed -> ZeI P md ops Q S' fuel listed a w -> ZeI P md ops Q S fuel listed a w
  | 0, _, _, _, _, h => h
  | fuel + 1, _, _, _, hl, h => ⟨h.1, fun i hi => wpOp_mono (fun a' w' h' => ⟨hS _ _ (hI _ i hl) h'.1, Zck I hI hS fuel _ a' w' (hI _ i hl) h'.2⟩) (h.2 i hi)⟩
theorem Zh7 {i : Nat} {oi : Oper} {v : Value} {U : World -> Prop} (hi : ops[i]? = some oi) (hsel : ∀ (j : Nat) (o : Oper) cs b, ops[j]? = some o -> o.op ≠ .select cs b)
    (hQ : ∀ c a w, ¬ Q (.panic c) a w) (hS : ∀ listed w, S (listed.setIfInBounds i true) w ↔ S listed w)
    (hU : ∀ listed w, Shut md ops listed -> listed.size = ops.size -> listed.getD i true = false -> S listed w -> U w) :
    ∀ (fuel : Nat) (listed : Array Bool) (a : Act) (w : World), Shut md ops listed -> listed.size = ops.size ->
      (∀ j oj, ops[j]? = some oj -> j ≠ i -> listed.getD j true = false -> (∀ e ∈ oj.after, Region.binds md e = true -> e.on ≠ i) -> oi.apart ops oj = true) ->
      i ∈ Region.ready md ops listed -> YieldsIf P ops U oi v a -> S listed w ->
      ZeI P md ops Q S fuel (listed.setIfInBounds i true) (a.put oi.dst v) w -> ZeI P md ops Q S (fuel + 1) listed a w := by
  intro fuel
  induction fuel with
  | zero =>
    intro listed a w hd hz _ hr hy hs H
    refine ⟨fun h => (by rw [h] at hr; cases hr), fun j hj => ?_⟩
    by_cases hji : j = i
    · subst hji
      exact hy.wpOp hi (hU _ _ hd hz (mem_ready.1 hr).1 hs) ⟨(hS _ _).2 hs, H⟩
    · have := ready_mono hj hji
      rw [H.1] at this
      cases this
  | succ fuel ih =>
    intro listed a w hd hz hfree hr hy hs H
    refine ⟨fun h => (by rw [h] at hr; cases hr), fun j hj => ?_⟩
    by_cases hji : j = i
    · subst hji
      exact hy.wpOp hi (hU _ _ hd hz (mem_ready.1 hr).1 hs) ⟨(hS _ _).2 hs, H⟩
    · obtain ⟨hjun, oj, hoj, hall⟩ := mem_ready.1 hj
      have hnot : ∀ e ∈ oj.after, Region.binds md e = true -> e.on ≠ i := fun e he hb heq => by
        have h1 := hall e he hb
        have h0 := (mem_ready.1 hr).1
        rw [heq] at h1
        rcases Nat.lt_or_ge i listed.size with h' | h'
        · simp [h'] at h0 h1; rw [h0] at h1; cases h1
        · simp [Array.getElem?_eq_none h'] at h1
      have h2 := wpOp_putIf hoj (hfree j oj hoj hji hjun hnot) (fun cs b => hsel i oi cs b hi) (fun cs b => hsel j oj cs b hoj) (fun c a w h => absurd h (hQ c _ w)) hy (H.2 j (ready_mono hj hji))
      refine wpOp_mono (fun a' w' h3 => ?_) h2
      have hs' : S (listed.setIfInBounds j true) w' := by
        rw [<- hS, Array.setIfInBounds_comm _ _ hji]
        exact h3.2.1
      refine ⟨hs', ih (listed.setIfInBounds j true) a' w' (hd.add hj) (by simpa using hz) (fun k ok hk hki hun hno => ?_) (ready_mono hr (Ne.symm hji)) h3.1 hs' ?_⟩
      · refine hfree k ok hk hki ?_ hno
        by_cases hjk : j = k
        · subst hjk; exact hjun
        · rw [getD_set_ne true hjk] at hun; exact hun
      · rw [Array.setIfInBounds_comm _ _ hji]
        exact h3.2.2
end
end Go.Sx
