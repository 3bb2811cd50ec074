/- Part of the proof: SxRow. -/
import Derived.Test.YtfffjdfegnmejaaSxTop
import Derived.Test.YtfffjdfegnmejaaSxEqT
import Derived.MapViews
set_option linter.unusedVariables false
set_option linter.unusedSimpArgs false
namespace Go.Sx
open Go.ChangeShapes Go.WideShapes Go.ChangeAt Go.RowKit
def ZOg : Option IntKind -> Value -> Prop
  | some k, v => ∃ n, v = .int k n /\ (Lit.int k n).wf = true
  | none, v => ∃ b, v = .bool b
def ZfR : List (Option IntKind) -> List Value -> Prop
  | [], [] => True
  | k :: l, v :: vs => ZOg k v /\ ZfR l vs
  | _, _ => False
theorem Ztr {k : Option IntKind} {l : List (Option IntKind)} : ∀ {cs : List Value}, ZfR (k :: l) cs -> ∃ v vs, cs = v :: vs /\ ZOg k v /\ ZfR l vs
  | [], h => h.elim
  | v :: vs, h => ⟨v, vs, rfl, h.1, h.2⟩
theorem Zyh : ∀ {cs : List Value}, ZfR [] cs -> cs = []
  | [], _ => rfl
  | _ :: _, h => h.elim
theorem Zkh : ∀ {a b : List (Option IntKind)} {us vs : List Value}, ZfR a us -> ZfR b vs -> ZfR (a ++ b) (us ++ vs)
  | [], _, [], _, _, h => h
  | _ :: _, _, _ :: _, _, h, h' => ⟨h.1, Zkh h.2 h'⟩
  | [], _, _ :: _, _, h, _ => h.elim
  | _ :: _, _, [], _, h, _ => h.elim
theorem Zk4 {k : IntKind} {l : List (Option IntKind)} : ∀ {n : Nat} {cs : List Value}, ZfR (List.replicate n (some k) ++ l) cs -> ∃ xs vs, cs = Zap k n xs ++ vs /\ xs.length = n /\ (∀ x ∈ xs, (Lit.int k x).wf = true) /\ ZfR l vs
  | 0, cs, h => ⟨[], cs, by simp [Zap], rfl, fun x hx => (by cases hx), by simpa using h⟩
  | n + 1, cs, h => by
    rw [List.replicate_succ, List.cons_append] at h
    obtain ⟨v, vs, rfl, ⟨x, rfl, hw⟩, h'⟩ := Ztr h
    obtain ⟨xs, us, rfl, hl, hx, h⟩ := Zk4 h'
    refine ⟨x :: xs, us, ?_, by simp [hl], fun y hy => ?_, h⟩
    · unfold Zap
      rw [List.range_succ_eq_map]
      simp [List.map_map]
    · rcases List.mem_cons.1 hy with rfl | hy
      · exact hw
      · exact hx y hy
theorem Zlz {α β : Type} {f : α -> Option β} : ∀ {l : List α} {r : List β}, l.mapM f = some r -> ∀ x ∈ l, ∃ y, f x = some y
  | [], _, _, x, hx => by cases hx
  | a :: l, r, h, x, hx => by
    rw [List.mapM_cons] at h
    simp only [bind, Option.bind_eq_some_iff] at h
    obtain ⟨y, hy, ys, hys, _⟩ := h
    rcases List.mem_cons.1 hx with rfl | hx
    · exact ⟨y, hy⟩
    · exact Zlz hys x hx
theorem Zoo {l : List (Option IntKind)} {c : Nat} (hc : l.length = c) : ∀ (n : Nat) (cs : List Value), cs.length = n * c -> (∀ i, i < n -> ZfR l ((cs.drop (i * c)).take c)) -> ZfR (List.replicate n l).flatten cs
  | 0, cs, hl, _ => by
    rw [Nat.zero_mul] at hl
    rw [List.eq_nil_of_length_eq_zero hl]
    trivial
  | n + 1, cs, hl, h => by
    rw [Nat.add_mul, Nat.one_mul] at hl
    have h0 := h 0 (by omega)
    rw [Nat.zero_mul, List.drop_zero] at h0
    rw [List.replicate_succ, List.flatten_cons, <- List.take_append_drop c cs]
    refine Zkh h0 (Zoo hc n _ (by rw [List.length_drop]; omega) fun i hi => ?_)
    have := h (i + 1) (by omega)
    rw [Nat.add_mul, Nat.one_mul, Nat.add_comm, <- List.drop_drop] at this
    exact this
section
variable {P : Program}
theorem Zoe {f : TypeId -> Option (List (Option IntKind))} {cs : List Value} : ∀ (fs : List Field) (off : Nat) (l : List (Option IntKind)), Ze6 P f off fs = some l -> cs.length = off + l.length ->
    (∀ g ∈ fs, ∀ a, f g.type = some a -> a.length = P.cellsOf g.type -> ZfR a ((cs.drop g.offset).take (P.cellsOf g.type))) -> ZfR l (cs.drop off)
  | [], off, l, hf, hlen, _ => by
    simp only [Ze6, Option.some.injEq] at hf
    subst hf
    rw [List.drop_of_length_le (by simp at hlen; omega)]
    trivial
  | g :: fs, off, l, hf, hlen, h => by
    simp only [Ze6] at hf
    split at hf
    · rename_i hc
      obtain ⟨hn, rfl⟩ := hc
      split at hf
      · rename_i a ha
        split at hf
        · rename_i hl
          split at hf
          · rename_i b hb
            cases hf
            have h1 := h g (by simp) a ha hl
            have h2 := Zoe fs (g.offset + a.length) b hb (by rw [List.length_append] at hlen; omega) (fun g' hg' => h g' (by simp [hg']))
            rw [<- List.take_append_drop a.length (cs.drop g.offset), List.drop_drop]
            rw [<- hl] at h1
            exact Zkh h1 h2
          · cases hf
        · cases hf
      · cases hf
    · cases hf
theorem Zd5 : ∀ (m : Nat) (t : TypeId) (l : List (Option IntKind)), Za5 P m t = some l -> l.length = P.cellsOf t -> ∀ (D : Nat) (cs : List Value) (ls : List Lit), P.keyLits D t cs = some ls -> ZfR l cs
  | 0, _, _, h, _ => by simp [Za5] at h
  | m + 1, t, l, h, hlen => by
    intro D cs ls hk
    cases D with
    | zero => simp [Program.keyLits] at hk
    | succ D =>
      simp only [Za5] at h
      split at h
      · rename_i k hu
        cases h
        unfold Program.keyLits at hk
        rw [hu] at hk
        split at hk
        all_goals first
          | (cases hk; done)
          | (simp_all; done)
          | skip
        rename_i q q' n heq
        split at hk
        · rename_i hc
          cases heq
          obtain ⟨rfl, hw⟩ := hc
          exact ⟨⟨n, rfl, hw⟩, trivial⟩
        · cases hk
      · rename_i hu
        cases h
        obtain ⟨b, rfl, _⟩ := keyLits_bool' hu hk
        exact ⟨⟨b, rfl⟩, trivial⟩
      · rename_i n e hu
        split at h
        · rename_i le he
          split at h
          · rename_i hl
            cases h
            unfold Program.keyLits at hk
            simp only [hu] at hk
            split at hk
            · rename_i hcs
              simp only [Option.map_eq_some_iff] at hk
              obtain ⟨as, has, _⟩ := hk
              refine Zoo hl n cs ?_ fun i hi => ?_
              · rw [hcs, <- hlen]; simp [hl]
              · obtain ⟨y, hy⟩ := Zlz has i (by simpa using hi)
                exact Zd5 m e le he hl D _ y hy
            · cases hk
          · cases h
        · cases h
      · rename_i fs hu
        split at h
        · unfold Program.keyLits at hk
          simp only [hu] at hk
          split at hk
          · rename_i hcs
            simp only [Option.map_eq_some_iff] at hk
            obtain ⟨as, has, _⟩ := hk
            have := Zoe (cs := cs) fs.toList 0 l h (by rw [hcs.1, hlen, Nat.zero_add]) fun g hg a ha hl => by
              obtain ⟨y, hy⟩ := Zlz has g hg
              exact Zd5 m g.type a ha hl D _ y hy
            simpa using this
          · cases hk
        · cases h
      · cases h
variable {W : World} {H : Type} {enc : TypeId × Value -> H}
theorem ZkG {t : TypeId} {v : Value} {d : DataW H} {ps : List MemPlace} {b0 m m' : Nat} {l : List (Option IntKind)} (hk : Za5 P m t = some l) (hl : l.length = P.cellsOf t) (hkt : P.keyTypeAt m' t = true) (ha : Znn P t = true)
    (hval : Value.okWide P W .any b0 t v) (hd : DataW.Trod enc P W 0 (fun _ => true) true t v d ps) : ∃ cs : List Value, v = .agg cs.toArray /\ ZfR l cs := by
  have hv : ∃ cs : Array Value, v = .agg cs := by
    unfold Znn at ha
    unfold Value.okWide at hval
    split at ha
    · rename_i hu; rw [hu] at hval; obtain ⟨cs, rfl, _⟩ := hval; exact ⟨cs, rfl⟩
    · rename_i hu; rw [hu] at hval; obtain ⟨cs, rfl, _⟩ := hval; exact ⟨cs, rfl⟩
    · cases ha
  obtain ⟨cs, rfl⟩ := hv
  obtain ⟨fuel, hf⟩ := hd
  have := (keyLits_of_trod m' t hkt fuel _ _ hf).1
  exact ⟨cs.toList, by simp, Zd5 m t l hk hl _ _ _ (by simpa [Value.cells] using this)⟩
theorem ZoQ {f : FuncId} {S : Sx.Zyw} {args : List SVal} (hS : Sound P f S) (hs : S args ⟨0, []⟩ fun r _ => r = .bool true) (hok : okL (fun _ => none) 0 args) :
    Calls P f (ZaH (fun _ => none) args).toArray W fun e W' => e = .returned (.bool true) /\ Below W.heap.size W W' :=
  ZuJ hS hs (fun id en he => by simp [Heap.find, Zc9] at he) (ZzK (fun id en he => by simp [Heap.find, Zc9] at he) fun id en he => by simp [Heap.find, Zc9] at he) hok
end
end Go.Sx
