/- Part of the proof: SxMixT. -/
import Derived.Test.YtfffjdfegnmejaaSxV0
set_option linter.unusedVariables false
set_option linter.unusedSimpArgs false
namespace Go.Sx
def evT (Γ : Zav) : MTree -> List Nat -> List (List Nat) -> Env -> Heap -> (Env -> Heap -> Prop) -> Prop
  | .nil, _, _, e, H, K => K e H
  | .st _ k _ d x r, G, hss, e, H, K => match k with
    | 0 => bif x.looks then ZaV Γ x e (H.keep (hss.headD [] ++ G)) fun v _ => evT Γ r (hss.headD [] ++ G) hss.tail (put d v e) H K else False
    | 1 => ZaV Γ x e H fun v H' => Zby H' (H.keep G) (ZbG G H) /\ evT Γ r G hss.tail (put d v e) H' K
    | _ => ZaV Γ x e H fun v H' => evT Γ r [] hss.tail (put d v e) H' K
  | .sk _ _ d r, G, hss, e, H, K => evT Γ r G hss.tail (put d (.tuple []) e) H K
  | .alt a b, G, hss, e, H, K => evT Γ a G hss e H K /\ evT Γ b G hss e H K
  | .gd t a b, G, hss, e, H, K => match ZeN e t with
    | some (.bool c) => (c = true -> evT Γ a G hss ((t, some (.bool true)) :: e) H K) /\ (c = false -> evT Γ b G hss ((t, some (.bool false)) :: e) H K)
    | _ => False
section
variable {P : Program} {w0 : World} {fp : Nat -> Nat -> Prop} {nt : Nat}
def KnownOk (kn : List (Nat × Bool)) (tmps : Array Value) : Prop := ∀ p ∈ kn, if p.1 < Zcs then tmps[p.1]? = some (.bool p.2) else tmps[p.1 - Zcs]? = some undef
attribute [local irreducible] Zcs
theorem KnownOk.lets {kn : List (Nat × Bool)} {tmps : Array Value} {g : Option (Nat × Bool)} (h : KnownOk kn tmps) (hg : ZgQ kn g = true) : Sx.lets g tmps := by
  cases g with
  | none => trivial
  | some g =>
    simp only [ZgQ, Bool.and_eq_true, List.contains_iff_mem] at hg
    have := h g hg.2
    have hlt : g.1 < Zcs := Nat.le_of_ble_eq_true hg.1
    rwa [if_pos hlt] at this
theorem KnownOk.put {kn : List (Nat × Bool)} {a : Act} {d d' : Option Nat} {v : Value} (h : KnownOk kn a.tmps) (hd : d = d') (hn : ZgP kn d = true) : KnownOk kn (a.put d' v).tmps := by
  subst hd
  intro p hp
  have hq := h p hp
  have hne : ∀ x, d = some x -> p.1 ≠ x /\ p.1 ≠ x + Zcs := fun x he => by
    subst he
    simp only [ZgP, List.all_eq_true, Bool.and_eq_true, Bool.not_eq_true'] at hn
    exact ⟨Nat.ne_of_beq_eq_false (hn p hp).1, Nat.ne_of_beq_eq_false (hn p hp).2⟩
  split at hq
  · rw [if_pos (by assumption), ZbV fun he => (hne _ he).1 rfl]; exact hq
  · rw [if_neg (by assumption), ZbV fun he => (hne _ he).2 (by omega)]; exact hq
theorem KnownOk.sk {kn : List (Nat × Bool)} {a : Act} {d d' : Option Nat} (h : KnownOk kn a.tmps) (hd : d = d') (hn : ZgP kn d = true) (hlt : ∀ x, d = some x -> x < a.tmps.size) : KnownOk (ZOa kn d) (a.put d' undef).tmps := by
  have h1 := h.put (v := undef) hd hn
  subst hd
  cases d with
  | none => exact h1
  | some d =>
    intro p hp
    rcases List.mem_cons.1 hp with rfl | hp
    · rw [if_neg (Nat.not_lt.2 (Nat.le_add_left Zcs d)), show d + Zcs - Zcs = d from Nat.add_sub_cancel _ _]
      exact ZrZ (hlt d rfl)
    · exact h1 p hp
theorem KnownOk.blocked {kn : List (Nat × Bool)} {tmps : Array Value} {g : Nat × Bool} (h : KnownOk kn tmps) (hg : (ZgQ kn (some g) || kn.contains (g.1 + Zcs, true)) = true) : Sx.blocked g.1 (!g.2) tmps := by
  rw [Bool.or_eq_true] at hg
  unfold Sx.blocked
  rcases hg with hg | hg
  · have : tmps[g.1]? = some (.bool g.2) := h.lets hg
    rw [this]
    cases g.2 <;> simp
  · have := h _ (List.contains_iff_mem.1 hg)
    rw [if_neg (Nat.not_lt.2 (Nat.le_add_left Zcs g.1)), show g.1 + Zcs - Zcs = g.1 from Nat.add_sub_cancel _ _] at this
    rw [this]
    exact fun h => by cases h
end
structure EvTC (Γ : Zav) (t : MTree) (hss : List (List Nat)) (e : Env) (H : Heap) (ks hs : List Nat) (Z : Env -> Heap -> Prop) : Prop where
  h : evT Γ t [] hss e H fun e' H' => Z (ZeM ks e') (H'.keep hs)
theorem EvTC.of {Γ : Zav} {t : MTree} {hss : List (List Nat)} {e : Env} {H : Heap} {ks hs : List Nat} {Z : Env -> Heap -> Prop} {F : Prop} (heq : (evT Γ t [] hss e H fun e' H' => Z (ZeM ks e') (H'.keep hs)) = F) (h : F) : EvTC Γ t hss e H ks hs Z := ⟨Eq.mpr heq h⟩
section
variable {P : Program} {w0 : World} {fp : Nat -> Nat -> Prop} {ρi : Rho} {n0 nt : Nat} {e : Env} {H : Heap} {K : ZaY} {r : List ACode}
end
end Go.Sx
