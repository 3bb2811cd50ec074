/- Two parts of the proof. -/
import Derived.Test.YtefmjmghkedciaaSxEv
import Derived.Test.YtefmjmghkedciaaSxCode
set_option linter.unusedVariables false
set_option linter.unusedSimpArgs false
namespace Go.Sx
theorem rdC_hit {st : Nat} {K : SVal → Prop} {v : SVal} {r : List Chunk} : rdC 0 st K (.one v :: r) 0 = K v := rfl
theorem rdC_skip {idx st off : Nat} {K : SVal → Prop} {v : SVal} {r : List Chunk} : rdC idx st K (.one v :: r) (off + 1) = rdC idx st K r off := rfl
theorem rdC_ints {idx n : Nat} {K : SVal → Prop} {k : IntKind} {xs : List Int} {r : List Chunk} : rdC idx 1 K (.ints k n xs :: r) 0 = (idx < n ∧ K (.int k (xs.getD idx 0))) := rfl
theorem rdC_iskip {idx st n off : Nat} {K : SVal → Prop} {k : IntKind} {xs : List Int} {r : List Chunk} : rdC idx st K (.ints k n xs :: r) (off + 1) = (bif Nat.ble n (off + 1) then rdC idx st K r (off + 1 - n) else False) := rfl
theorem rdC_rows {idx st off n : Nat} {K : SVal → Prop} {sh : List Leaf} {xs : List (Tup sh)} {r : List Chunk} : rdC idx st K (.rows sh n xs :: r) off = (bif Nat.beq st (stride sh) then idx < n ∧ rdLeaf K sh (xs.getD idx (Tup.dflt sh)) off else False) := rfl
theorem wrC_hit {st : Nat} {v u : SVal} {K : List Chunk → Prop} {r : List Chunk} : wrC 0 st v K (.one u :: r) 0 = K (.one v :: r) := rfl
theorem wrC_skip {idx st off : Nat} {v u : SVal} {K : List Chunk → Prop} {r : List Chunk} : wrC idx st v K (.one u :: r) (off + 1) = wrC idx st v (fun l => K (.one u :: l)) r off := rfl
theorem wrC_ints {idx st n : Nat} {k' k : IntKind} {m : Int} {K : List Chunk → Prop} {xs : List Int} {r : List Chunk} : wrC idx st (.int k' m) K (.ints k n xs :: r) 0 = (bif kEq k' k && Nat.beq st 1 then idx < n ∧ idx < xs.length ∧ K (.ints k n (xs.set idx m) :: r) else False) := rfl
theorem wrC_iskip {idx st n off : Nat} {v : SVal} {k : IntKind} {K : List Chunk → Prop} {xs : List Int} {r : List Chunk} : wrC idx st v K (.ints k n xs :: r) (off + 1) = (bif Nat.ble n (off + 1) then wrC idx st v (fun l => K (.ints k n xs :: l)) r (off + 1 - n) else False) := rfl
theorem takeN_nil {K : List Chunk → Prop} : takeN K [] 0 = K [] := rfl
theorem takeN_zero {K : List Chunk → Prop} {c : Chunk} {r : List Chunk} : takeN K (c :: r) 0 = K [] := rfl
theorem takeN_one {K : List Chunk → Prop} {v : SVal} {r : List Chunk} {sz : Nat} : takeN K (.one v :: r) (sz + 1) = takeN (fun l => K (.one v :: l)) r sz := rfl
theorem takeN_ints {K : List Chunk → Prop} {k : IntKind} {n : Nat} {xs : List Int} {r : List Chunk} {sz : Nat} : takeN K (.ints k n xs :: r) (sz + 1) = (bif Nat.ble n (sz + 1) then takeN (fun l => K (.ints k n xs :: l)) r (sz + 1 - n) else False) := rfl
theorem dropN_nil {K : List Chunk → Prop} : dropN K [] 0 = K [] := rfl
theorem dropN_zero {K : List Chunk → Prop} {c : Chunk} {r : List Chunk} : dropN K (c :: r) 0 = K (c :: r) := rfl
theorem dropN_one {K : List Chunk → Prop} {v : SVal} {r : List Chunk} {sz : Nat} : dropN K (.one v :: r) (sz + 1) = dropN K r sz := rfl
theorem dropN_ints {K : List Chunk → Prop} {k : IntKind} {n : Nat} {xs : List Int} {r : List Chunk} {sz : Nat} : dropN K (.ints k n xs :: r) (sz + 1) = (bif Nat.ble n (sz + 1) then dropN K r (sz + 1 - n) else False) := rfl
theorem rdA_hit {st sz : Nat} {K : List Chunk → Prop} {v : SVal} {r : List Chunk} : rdA 0 st sz K (.one v :: r) 0 = takeN K (.one v :: r) sz := rfl
theorem rdA_skip {idx st sz off : Nat} {K : List Chunk → Prop} {v : SVal} {r : List Chunk} : rdA idx st sz K (.one v :: r) (off + 1) = rdA idx st sz K r off := rfl
theorem rdA_ints {idx st sz n : Nat} {K : List Chunk → Prop} {k : IntKind} {xs : List Int} {r : List Chunk} : rdA idx st sz K (.ints k n xs :: r) 0 = (bif Nat.ble n sz then (bif Nat.beq idx 0 then takeN K (.ints k n xs :: r) sz else False)
       else (bif Nat.beq st 1 then idx + sz ≤ n ∧ K [.ints k sz ((xs.drop idx).take sz)] else False)) := rfl
theorem rdA_iskip {idx st sz n off : Nat} {K : List Chunk → Prop} {k : IntKind} {xs : List Int} {r : List Chunk} : rdA idx st sz K (.ints k n xs :: r) (off + 1) = (bif Nat.ble n (off + 1) then rdA idx st sz K r (off + 1 - n) else False) := rfl
theorem rdA_rows {idx st sz off n : Nat} {K : List Chunk → Prop} {sh : List Leaf} {xs : List (Tup sh)} {r : List Chunk} : rdA idx st sz K (.rows sh n xs :: r) off = (bif Nat.beq st (stride sh) then idx < n ∧ dropN (fun l => takeN K l sz) (tupChunks sh (xs.getD idx (Tup.dflt sh))) off else False) := rfl
theorem wrA_hit {st sz : Nat} {new : List Chunk} {K : List Chunk → Prop} {v : SVal} {r : List Chunk} : wrA 0 st sz new K (.one v :: r) 0 = dropN (fun l => K (new ++ l)) (.one v :: r) sz := rfl
theorem wrA_skip {idx st sz off : Nat} {new : List Chunk} {K : List Chunk → Prop} {v : SVal} {r : List Chunk} : wrA idx st sz new K (.one v :: r) (off + 1) = wrA idx st sz new (fun l => K (.one v :: l)) r off := rfl
theorem wrA_ints {idx st sz n : Nat} {new : List Chunk} {K : List Chunk → Prop} {k : IntKind} {xs : List Int} {r : List Chunk} : wrA idx st sz new K (.ints k n xs :: r) 0 = (bif Nat.ble n sz then (bif Nat.beq idx 0 then dropN (fun l => K (new ++ l)) (.ints k n xs :: r) sz else False)
       else match new with
        | [.ints k' m ys] => bif kEq k' k && Nat.beq m sz && Nat.beq st 1 then idx + sz ≤ n ∧ xs.length = n ∧ ys.length = sz ∧ K (.ints k n (xs.take idx ++ ys ++ xs.drop (idx + sz)) :: r) else False
        | _ => False) := rfl
theorem wrA_iskip {idx st sz n off : Nat} {new : List Chunk} {K : List Chunk → Prop} {k : IntKind} {xs : List Int} {r : List Chunk} : wrA idx st sz new K (.ints k n xs :: r) (off + 1) = (bif Nat.ble n (off + 1) then wrA idx st sz new (fun l => K (.ints k n xs :: l)) r (off + 1 - n) else False) := rfl
end Go.Sx

namespace Go.Sx
theorem evM_nil {Γ : Calls'} {e : Env} {H : Heap} {K : Env → Heap → Prop} : evM Γ [] e H K = K e H := rfl
theorem evM_q {Γ : Calls'} {i : Nat} {d : Option Nat} {x : AOp} {r : List MStep} {e : Env} {H : Heap} {K : Env → Heap → Prop} : evM Γ (.mk i 0 d x :: r) e H K = (bif x.looks then evOp Γ x e H fun v _ => evM Γ r (put d v e) H K else False) := rfl
theorem evM_k {Γ : Calls'} {i : Nat} {d : Option Nat} {x : AOp} {r : List MStep} {e : Env} {H : Heap} {K : Env → Heap → Prop} : evM Γ (.mk i 1 d x :: r) e H K = (evOp Γ x e H fun v H' => keeps H' H H.ents ∧ evM Γ r (put d v e) H' K) := rfl
theorem evM_l {Γ : Calls'} {i : Nat} {d : Option Nat} {x : AOp} {r : List MStep} {e : Env} {H : Heap} {K : Env → Heap → Prop} : evM Γ (.mk i 2 d x :: r) e H K = (evOp Γ x e H fun v H' => evM Γ r (put d v e) H' K) := rfl
theorem rdA_32 {st : Nat} {K : List Chunk → Prop} {k : IntKind} {xs : List Int} {r : List Chunk} : rdA 0 st 32 K (.ints k 32 xs :: r) 0 = takeN K (.ints k 32 xs :: r) 32 := rfl
theorem wrA_32 {st : Nat} {new : List Chunk} {K : List Chunk → Prop} {k : IntKind} {xs : List Int} {r : List Chunk} : wrA 0 st 32 new K (.ints k 32 xs :: r) 0 = dropN (fun l => K (new ++ l)) (.ints k 32 xs :: r) 32 := rfl
/-- What stands behind is hidden. -/
theorem ev_gen {Γ : Calls'} {Λ : Loops'} {c : ACode} {e : Env} {H : Heap} {K : X → Env → Heap → Prop} (h : ∀ K', K' = K → evCode Γ Λ c e H K') : evCode Γ Λ c e H K := h K rfl
/-- One statement, what stands behind it hidden. -/
theorem ev_cut {Γ : Calls'} {Λ : Loops'} {a b : ACode} {e : Env} {H : Heap} {K : X → Env → Heap → Prop} (h : ∀ K' : X → Env → Heap → Prop, (∀ e H, evCode Γ Λ b e H K → K' .nrm e H) → (∀ e H, K .ret e H → K' .ret e H) →
    (∀ i e H, K (.ex i) e H → K' (.ex i) e H) → evCode Γ Λ a e H K') : evCode Γ Λ (.seq a b) e H K := h _ (fun _ _ h => h) (fun _ _ h => h) (fun _ _ _ h => h)
theorem evM_cut0 {Γ : Calls'} {i : Nat} {d : Option Nat} {x : AOp} {r : List MStep} {e : Env} {H : Heap} {K : Env → Heap → Prop} (hl : x.looks = true) (h : ∀ K' : SVal → Heap → Prop, (∀ v H', evM Γ r (put d v e) H K → K' v H') → evOp Γ x e H K') : evM Γ (.mk i 0 d x :: r) e H K := by
  simp only [evM, hl, cond_true]
  exact h _ (fun _ _ h => h)
theorem evM_cut1 {Γ : Calls'} {i : Nat} {d : Option Nat} {x : AOp} {r : List MStep} {e : Env} {H : Heap} {K : Env → Heap → Prop} (h : ∀ K' : SVal → Heap → Prop, (∀ v H', keeps H' H H.ents → evM Γ r (put d v e) H' K → K' v H') → evOp Γ x e H K') : evM Γ (.mk i 1 d x :: r) e H K := h _ (fun _ _ h h' => ⟨h, h'⟩)
theorem evM_cut2 {Γ : Calls'} {i : Nat} {d : Option Nat} {x : AOp} {r : List MStep} {e : Env} {H : Heap} {K : Env → Heap → Prop} (h : ∀ K' : SVal → Heap → Prop, (∀ v H', evM Γ r (put d v e) H' K → K' v H') → evOp Γ x e H K') : evM Γ (.mk i 2 d x :: r) e H K := h _ (fun _ _ h => h)
/-- One operation, what stands behind it hidden. -/
theorem evI_cut {Γ : Calls'} {d : Option Nat} {x : AOp} {r : Items} {e : Env} {H : Heap} {K : Env → Heap → Prop} (h : ∀ K' : SVal → Heap → Prop, (∀ v H', evItems Γ r (put d v e) H' K → K' v H') → evOp Γ x e H K') : evItems Γ (.op d x r) e H K := h _ (fun _ _ h => h)
end Go.Sx
