/- The evaluator's steps on regions that draw their order and do things. -/
import Derived.Test.YtggpebgigddogaaSxCode
namespace Go.Sx
theorem evM_nil {Γ : Calls'} {e : Env} {H : Heap} {K : Env → Heap → Prop} : evM Γ [] e H K = K e H := rfl
theorem evM_q {Γ : Calls'} {i : Nat} {d : Option Nat} {x : AOp} {r : List MStep} {e : Env} {H : Heap} {K : Env → Heap → Prop} : evM Γ (.mk i 0 d x :: r) e H K = (bif x.looks then evOp Γ x e H fun v _ => evM Γ r (put d v e) H K else False) := rfl
theorem evM_k {Γ : Calls'} {i : Nat} {d : Option Nat} {x : AOp} {r : List MStep} {e : Env} {H : Heap} {K : Env → Heap → Prop} : evM Γ (.mk i 1 d x :: r) e H K = (evOp Γ x e H fun v H' => keeps H' H H.ents ∧ evM Γ r (put d v e) H' K) := rfl
theorem evM_l {Γ : Calls'} {i : Nat} {d : Option Nat} {x : AOp} {r : List MStep} {e : Env} {H : Heap} {K : Env → Heap → Prop} : evM Γ (.mk i 2 d x :: r) e H K = (evOp Γ x e H fun v H' => evM Γ r (put d v e) H' K) := rfl
theorem rdA_32 {st : Nat} {K : List Chunk → Prop} {k : IntKind} {xs : List Int} {r : List Chunk} : rdA 0 st 32 K (.ints k 32 xs :: r) 0 = takeN K (.ints k 32 xs :: r) 32 := rfl
theorem wrA_32 {st : Nat} {new : List Chunk} {K : List Chunk → Prop} {k : IntKind} {xs : List Int} {r : List Chunk} : wrA 0 st 32 new K (.ints k 32 xs :: r) 0 = dropN (fun l => K (new ++ l)) (.ints k 32 xs :: r) 32 := rfl
/-- What stands behind is hidden. -/
theorem ev_gen {Γ : Calls'} {Λ : Loops'} {c : ACode} {e : Env} {H : Heap} {K : X → Env → Heap → Prop} (h : ∀ K', K' = K → evCode Γ Λ c e H K') : evCode Γ Λ c e H K := h K rfl
/-- One statement, what stands behind it hidden. -/
theorem ev_cut {Γ : Calls'} {Λ : Loops'} {a b : ACode} {e : Env} {H : Heap} {K : X → Env → Heap → Prop} (h : ∀ K' : X → Env → Heap → Prop, (∀ e H, evCode Γ Λ b e H K → K' .nrm e H) → (∀ e H, K .ret e H → K' .ret e H) →
    (∀ i e H, K (.ex i) e H → K' (.ex i) e H) → evCode Γ Λ a e H K') : evCode Γ Λ (.seq a b) e H K := h _ (fun _ _ h => h) (fun _ _ h => h) (fun _ _ _ h => h)
theorem evM_cut0 {Γ : Calls'} {i : Nat} {d : Option Nat} {x : AOp} {r : List MStep} {e : Env} {H : Heap} {K : Env → Heap → Prop} (hl : x.looks = true) (h : ∀ K' : SVal → Heap → Prop, (∀ v H', evM Γ r (put d v e) H K → K' v H') → evOp Γ x e H K') : evM Γ (.mk i 0 d x :: r) e H K := by
  simp only [evM, hl, cond_true]
  exact h _ (fun _ _ h => h)
theorem evM_cut1 {Γ : Calls'} {i : Nat} {d : Option Nat} {x : AOp} {r : List MStep} {e : Env} {H : Heap} {K : Env → Heap → Prop} (h : ∀ K' : SVal → Heap → Prop, (∀ v H', keeps H' H H.ents → evM Γ r (put d v e) H' K → K' v H') → evOp Γ x e H K') : evM Γ (.mk i 1 d x :: r) e H K := h _ (fun _ _ h h' => ⟨h, h'⟩)
theorem evM_cut2 {Γ : Calls'} {i : Nat} {d : Option Nat} {x : AOp} {r : List MStep} {e : Env} {H : Heap} {K : Env → Heap → Prop} (h : ∀ K' : SVal → Heap → Prop, (∀ v H', evM Γ r (put d v e) H' K → K' v H') → evOp Γ x e H K') : evM Γ (.mk i 2 d x :: r) e H K := h _ (fun _ _ h => h)
/-- One operation, what stands behind it hidden. -/
theorem evI_cut {Γ : Calls'} {d : Option Nat} {x : AOp} {r : Items} {e : Env} {H : Heap} {K : Env → Heap → Prop} (h : ∀ K' : SVal → Heap → Prop, (∀ v H', evItems Γ r (put d v e) H' K → K' v H') → evOp Γ x e H K') : evItems Γ (.op d x r) e H K := h _ (fun _ _ h => h)
end Go.Sx
