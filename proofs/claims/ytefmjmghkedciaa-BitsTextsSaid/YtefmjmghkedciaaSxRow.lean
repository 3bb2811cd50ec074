/- Arguments of plain cells (structs and arrays of numbers and truths) are rows of cells of the right kinds. -/
import Derived.Test.YtefmjmghkedciaaSxTop
import Derived.Test.YtefmjmghkedciaaSxEqT
import Derived.MapViews
set_option linter.unusedVariables false
set_option linter.unusedSimpArgs false
namespace Go.Sx
open Go.ChangeShapes Go.WideShapes Go.ChangeAt Go.RowKit
def isKw : Option IntKind → Value → Prop
  | some k, v => ∃ n, v = .int k n ∧ (Lit.int k n).wf = true
  | none, v => ∃ b, v = .bool b
def allKw : List (Option IntKind) → List Value → Prop
  | [], [] => True
  | k :: l, v :: vs => isKw k v ∧ allKw l vs
  | _, _ => False
theorem allKw_cons {k : Option IntKind} {l : List (Option IntKind)} : ∀ {cs : List Value}, allKw (k :: l) cs → ∃ v vs, cs = v :: vs ∧ isKw k v ∧ allKw l vs
  | [], h => h.elim
  | v :: vs, h => ⟨v, vs, rfl, h.1, h.2⟩
theorem allKw_nil : ∀ {cs : List Value}, allKw [] cs → cs = []
  | [], _ => rfl
  | _ :: _, h => h.elim
theorem allKw_app : ∀ {a b : List (Option IntKind)} {us vs : List Value}, allKw a us → allKw b vs → allKw (a ++ b) (us ++ vs)
  | [], _, [], _, _, h => h
  | _ :: _, _, _ :: _, _, h, h' => ⟨h.1, allKw_app h.2 h'⟩
  | [], _, _ :: _, _, h, _ => h.elim
  | _ :: _, _, [], _, h, _ => h.elim
theorem allKw_ints {k : IntKind} {l : List (Option IntKind)} : ∀ {n : Nat} {cs : List Value}, allKw (List.replicate n (some k) ++ l) cs → ∃ xs vs, cs = intsConc k n xs ++ vs ∧ xs.length = n ∧ (∀ x ∈ xs, (Lit.int k x).wf = true) ∧ allKw l vs
  | 0, cs, h => ⟨[], cs, by simp [intsConc], rfl, fun x hx => (by cases hx), by simpa using h⟩
  | n + 1, cs, h => by
    rw [List.replicate_succ, List.cons_append] at h
    obtain ⟨v, vs, rfl, ⟨x, rfl, hw⟩, h'⟩ := allKw_cons h
    obtain ⟨xs, us, rfl, hl, hx, h⟩ := allKw_ints h'
    refine ⟨x :: xs, us, ?_, by simp [hl], fun y hy => ?_, h⟩
    · unfold intsConc
      rw [List.range_succ_eq_map]
      simp [List.map_map]
    · rcases List.mem_cons.1 hy with rfl | hy
      · exact hw
      · exact hx y hy
theorem mapM_all {α β : Type} {f : α → Option β} : ∀ {l : List α} {r : List β}, l.mapM f = some r → ∀ x ∈ l, ∃ y, f x = some y
  | [], _, _, x, hx => by cases hx
  | a :: l, r, h, x, hx => by
    rw [List.mapM_cons] at h
    simp only [bind, Option.bind_eq_some_iff] at h
    obtain ⟨y, hy, ys, hys, _⟩ := h
    rcases List.mem_cons.1 hx with rfl | hx
    · exact ⟨y, hy⟩
    · exact mapM_all hys x hx
theorem chunks_kw {l : List (Option IntKind)} {c : Nat} (hc : l.length = c) : ∀ (n : Nat) (cs : List Value), cs.length = n * c → (∀ i, i < n → allKw l ((cs.drop (i * c)).take c)) → allKw (List.replicate n l).flatten cs
  | 0, cs, hl, _ => by
    rw [Nat.zero_mul] at hl
    rw [List.eq_nil_of_length_eq_zero hl]
    trivial
  | n + 1, cs, hl, h => by
    rw [Nat.add_mul, Nat.one_mul] at hl
    have h0 := h 0 (by omega)
    rw [Nat.zero_mul, List.drop_zero] at h0
    rw [List.replicate_succ, List.flatten_cons, ← List.take_append_drop c cs]
    refine allKw_app h0 (chunks_kw hc n _ (by rw [List.length_drop]; omega) fun i hi => ?_)
    have := h (i + 1) (by omega)
    rw [Nat.add_mul, Nat.one_mul, Nat.add_comm, ← List.drop_drop] at this
    exact this
section
variable {P : Program}
theorem fields_kw {f : TypeId → Option (List (Option IntKind))} {cs : List Value} : ∀ (fs : List Field) (off : Nat) (l : List (Option IntKind)), kindsFs P f off fs = some l → cs.length = off + l.length →
    (∀ g ∈ fs, ∀ a, f g.type = some a → a.length = P.cellsOf g.type → allKw a ((cs.drop g.offset).take (P.cellsOf g.type))) → allKw l (cs.drop off)
  | [], off, l, hf, hlen, _ => by
    simp only [kindsFs, Option.some.injEq] at hf
    subst hf
    rw [List.drop_of_length_le (by simp at hlen; omega)]
    trivial
  | g :: fs, off, l, hf, hlen, h => by
    simp only [kindsFs] at hf
    split at hf
    · rename_i hc
      obtain ⟨hn, rfl⟩ := hc
      split at hf
      · rename_i a ha
        split at hf
        · rename_i hl
          split at hf
          · rename_i b hb
            cases hf
            have h1 := h g (by simp) a ha hl
            have h2 := fields_kw fs (g.offset + a.length) b hb (by rw [List.length_append] at hlen; omega) (fun g' hg' => h g' (by simp [hg']))
            rw [← List.take_append_drop a.length (cs.drop g.offset), List.drop_drop]
            rw [← hl] at h1
            exact allKw_app h1 h2
          · cases hf
        · cases hf
      · cases hf
    · cases hf
theorem keyLits_kinds : ∀ (m : Nat) (t : TypeId) (l : List (Option IntKind)), kindsOf P m t = some l → l.length = P.cellsOf t → ∀ (D : Nat) (cs : List Value) (ls : List Lit), P.keyLits D t cs = some ls → allKw l cs
  | 0, _, _, h, _ => by simp [kindsOf] at h
  | m + 1, t, l, h, hlen => by
    intro D cs ls hk
    cases D with
    | zero => simp [Program.keyLits] at hk
    | succ D =>
      simp only [kindsOf] at h
      split at h
      · rename_i k hu
        cases h
        unfold Program.keyLits at hk
        rw [hu] at hk
        split at hk
        all_goals first
          | (cases hk; done)
          | (simp_all; done)
          | skip
        rename_i q q' n heq
        split at hk
        · rename_i hc
          cases heq
          obtain ⟨rfl, hw⟩ := hc
          exact ⟨⟨n, rfl, hw⟩, trivial⟩
        · cases hk
      · rename_i hu
        cases h
        obtain ⟨b, rfl, _⟩ := keyLits_bool' hu hk
        exact ⟨⟨b, rfl⟩, trivial⟩
      · rename_i n e hu
        split at h
        · rename_i le he
          split at h
          · rename_i hl
            cases h
            unfold Program.keyLits at hk
            simp only [hu] at hk
            split at hk
            · rename_i hcs
              simp only [Option.map_eq_some_iff] at hk
              obtain ⟨as, has, _⟩ := hk
              refine chunks_kw hl n cs ?_ fun i hi => ?_
              · rw [hcs, ← hlen]; simp [hl]
              · obtain ⟨y, hy⟩ := mapM_all has i (by simpa using hi)
                exact keyLits_kinds m e le he hl D _ y hy
            · cases hk
          · cases h
        · cases h
      · rename_i fs hu
        split at h
        · unfold Program.keyLits at hk
          simp only [hu] at hk
          split at hk
          · rename_i hcs
            simp only [Option.map_eq_some_iff] at hk
            obtain ⟨as, has, _⟩ := hk
            have := fields_kw (cs := cs) fs.toList 0 l h (by rw [hcs.1, hlen, Nat.zero_add]) fun g hg a ha hl => by
              obtain ⟨y, hy⟩ := mapM_all has g hg
              exact keyLits_kinds m g.type a ha hl D _ y hy
            simpa using this
          · cases hk
        · cases h
      · cases h
variable {W : World} {H : Type} {enc : TypeId × Value → H}
theorem open_cells {t : TypeId} {v : Value} {d : DataW H} {ps : List MemPlace} {b0 m m' : Nat} {l : List (Option IntKind)} (hk : kindsOf P m t = some l) (hl : l.length = P.cellsOf t) (hkt : P.keyTypeAt m' t = true) (ha : aggT P t = true)
    (hval : Value.okWide P W .any b0 t v) (hd : DataW.Trod enc P W 0 (fun _ => true) true t v d ps) : ∃ cs : List Value, v = .agg cs.toArray ∧ allKw l cs := by
  have hv : ∃ cs : Array Value, v = .agg cs := by
    unfold aggT at ha
    unfold Value.okWide at hval
    split at ha
    · rename_i hu; rw [hu] at hval; obtain ⟨cs, rfl, _⟩ := hval; exact ⟨cs, rfl⟩
    · rename_i hu; rw [hu] at hval; obtain ⟨cs, rfl, _⟩ := hval; exact ⟨cs, rfl⟩
    · cases ha
  obtain ⟨cs, rfl⟩ := hv
  obtain ⟨fuel, hf⟩ := hd
  have := (keyLits_of_trod m' t hkt fuel _ _ hf).1
  exact ⟨cs.toList, by simp, keyLits_kinds m t l hk hl _ _ _ (by simpa [Value.cells] using this)⟩
/-- A function that is handed plain values alone. -/
theorem sound_plain {f : FuncId} {S : Sx.Spec} {args : List SVal} (hS : Sound P f S) (hs : S args ⟨0, []⟩ fun r _ => r = .bool true) (hok : okL (fun _ => none) 0 args) :
    Calls P f (concL (fun _ => none) args).toArray W fun e W' => e = .returned (.bool true) ∧ Below W.heap.size W W' :=
  sound_top hS hs (fun id en he => by simp [Heap.find, findE] at he) (rel_ro fun id en he => by simp [Heap.find, findE] at he) hok
/-- A function that is handed one row of numbers, first of all, and plain values. -/
theorem sound_nums {f : FuncId} {S : Sx.Spec} {rest : List SVal} {k : IntKind} {q : Option (Nat × Nat)} {len cap : Nat} {xs : List Int} (hS : Sound P f S) (hl : xs.length = len) (hq : q = none → len = 0 ∧ cap = 0)
    (hcell : ∀ b off, q = some (b, off) → ∀ i, i < len → W.cell? ⟨b, off + i, none⟩ = some (.int k (xs.getD i 0)))
    (hs : S (.slice ⟨0,0,0,1⟩ len cap :: rest) ⟨1, [(0, some ⟨false, [.ints k len xs], 0⟩)]⟩ fun r _ => r = .bool true) (hok : okL (fun i => if i = 0 then q else none) 1 rest) :
    Calls P f (.slice (q.map fun p => ⟨p.1, p.2, none⟩) len cap :: concL (fun i => if i = 0 then q else none) rest).toArray W fun e W' => e = .returned (.bool true) ∧ Below W.heap.size W W' := by
  have hf : ∀ id en, (⟨1, [(0, some ⟨false, [.ints k len xs], 0⟩)]⟩ : Sx.Heap).find id = some en → id = 0 ∧ en = ⟨false, [.ints k len xs], 0⟩ := fun id en he => by
    simp only [Sx.Heap.find, Sx.findE_cons] at he
    split at he
    · rename_i h; cases he; exact ⟨h.symm, rfl⟩
    · cases he
  have h := Sx.sound_top (W := W) (ρ := fun i => if i = 0 then q else none) (H := ⟨1, [(0, some ⟨false, [.ints k len xs], 0⟩)]⟩) (args := .slice ⟨0,0,0,1⟩ len cap :: rest) hS
    hs (fun id en he => by obtain ⟨_, rfl⟩ := hf id en he; rfl)
    (Sx.rel_ro fun id en he => by
      obtain ⟨rfl, rfl⟩ := hf id en he
      refine ⟨Nat.zero_lt_one, rfl, rfl, by simp [Sx.okCs, Sx.Chunk.ok], fun hn => by simp at hn; simp [Sx.lenCs, Sx.Chunk.len, (hq hn).1], fun b base hb i v hi => ?_⟩
      simp only [if_pos] at hb
      simp only [Sx.concCs, Sx.Chunk.conc, List.append_nil] at hi
      have hil := (List.getElem?_eq_some_iff.1 hi).1
      rw [Sx.intsConc_length] at hil
      rw [Sx.intsConc_get _ _ _ _ hil] at hi
      rw [← hi]
      exact hcell b base hb i hil)
    (by simp only [Sx.okL, Sx.SVal.ok]; exact ⟨⟨Nat.zero_lt_one, fun h => by simpa using hq h⟩, hok⟩)
  simpa [Sx.concL, Sx.SVal.conc, Sx.SAddr.conc] using h
end
end Go.Sx
