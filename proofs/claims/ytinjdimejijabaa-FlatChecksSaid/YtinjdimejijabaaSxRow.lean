/- Part of the proof: SxRow. -/
import Derived.Test.YtinjdimejijabaaSxTop
import Derived.Test.YtinjdimejijabaaSxEqT
import Derived.MapViews
set_option linter.unusedVariables false
set_option linter.unusedSimpArgs false
namespace Go.Sx
open Go.ChangeShapes Go.WideShapes Go.ChangeAt Go.RowKit
def ZQn : Option IntKind -> Value -> Prop
  | some k, v => ∃ n, v = .int k n /\ (Lit.int k n).wf = true
  | none, v => ∃ b, v = .bool b
def Zf2 : List (Option IntKind) -> List Value -> Prop
  | [], [] => True
  | k :: l, v :: vs => ZQn k v /\ Zf2 l vs
  | _, _ => False
theorem ZbK {k : Option IntKind} {l : List (Option IntKind)} : ∀ {cs : List Value}, Zf2 (k :: l) cs -> ∃ v vs, cs = v :: vs /\ ZQn k v /\ Zf2 l vs
  | [], h => h.elim
  | v :: vs, h => ⟨v, vs, rfl, h.1, h.2⟩
theorem Zhc : ∀ {cs : List Value}, Zf2 [] cs -> cs = []
  | [], _ => rfl
  | _ :: _, h => h.elim
theorem Zi3 : ∀ {a b : List (Option IntKind)} {us vs : List Value}, Zf2 a us -> Zf2 b vs -> Zf2 (a ++ b) (us ++ vs)
  | [], _, [], _, _, h => h
  | _ :: _, _, _ :: _, _, h, h' => ⟨h.1, Zi3 h.2 h'⟩
  | [], _, _ :: _, _, h, _ => h.elim
  | _ :: _, _, [], _, h, _ => h.elim
theorem Zf1 {k : IntKind} {l : List (Option IntKind)} : ∀ {n : Nat} {cs : List Value}, Zf2 (List.replicate n (some k) ++ l) cs -> ∃ xs vs, cs = ZaJ k n xs ++ vs /\ xs.length = n /\ (∀ x ∈ xs, (Lit.int k x).wf = true) /\ Zf2 l vs
  | 0, cs, h => ⟨[], cs, by simp [ZaJ], rfl, fun x hx => (by cases hx), by simpa using h⟩
  | n + 1, cs, h => by
    rw [List.replicate_succ, List.cons_append] at h
    obtain ⟨v, vs, rfl, ⟨x, rfl, hw⟩, h'⟩ := ZbK h
    obtain ⟨xs, us, rfl, hl, hx, h⟩ := Zf1 h'
    refine ⟨x :: xs, us, ?_, by simp [hl], fun y hy => ?_, h⟩
    · unfold ZaJ
      rw [List.range_succ_eq_map]
      simp [List.map_map]
    · rcases List.mem_cons.1 hy with rfl | hy
      · exact hw
      · exact hx y hy
theorem ZiB {α β : Type} {f : α -> Option β} : ∀ {l : List α} {r : List β}, l.mapM f = some r -> ∀ x ∈ l, ∃ y, f x = some y
  | [], _, _, x, hx => by cases hx
  | a :: l, r, h, x, hx => by
    rw [List.mapM_cons] at h
    simp only [bind, Option.bind_eq_some_iff] at h
    obtain ⟨y, hy, ys, hys, _⟩ := h
    rcases List.mem_cons.1 hx with rfl | hx
    · exact ⟨y, hy⟩
    · exact ZiB hys x hx
theorem ZpV {l : List (Option IntKind)} {c : Nat} (hc : l.length = c) : ∀ (n : Nat) (cs : List Value), cs.length = n * c -> (∀ i, i < n -> Zf2 l ((cs.drop (i * c)).take c)) -> Zf2 (List.replicate n l).flatten cs
  | 0, cs, hl, _ => by
    rw [Nat.zero_mul] at hl
    rw [List.eq_nil_of_length_eq_zero hl]
    trivial
  | n + 1, cs, hl, h => by
    rw [Nat.add_mul, Nat.one_mul] at hl
    have h0 := h 0 (by omega)
    rw [Nat.zero_mul, List.drop_zero] at h0
    rw [List.replicate_succ, List.flatten_cons, <- List.take_append_drop c cs]
    refine Zi3 h0 (ZpV hc n _ (by rw [List.length_drop]; omega) fun i hi => ?_)
    have := h (i + 1) (by omega)
    rw [Nat.add_mul, Nat.one_mul, Nat.add_comm, <- List.drop_drop] at this
    exact this
section
variable {P : Program}
theorem ZpG {f : TypeId -> Option (List (Option IntKind))} {cs : List Value} : ∀ (fs : List Field) (off : Nat) (l : List (Option IntKind)), ZgT P f off fs = some l -> cs.length = off + l.length ->
    (∀ g ∈ fs, ∀ a, f g.type = some a -> a.length = P.cellsOf g.type -> Zf2 a ((cs.drop g.offset).take (P.cellsOf g.type))) -> Zf2 l (cs.drop off)
  | [], off, l, hf, hlen, _ => by
    simp only [ZgT, Option.some.injEq] at hf
    subst hf
    rw [List.drop_of_length_le (by simp at hlen; omega)]
    trivial
  | g :: fs, off, l, hf, hlen, h => by
    simp only [ZgT] at hf
    split at hf
    · rename_i hc
      obtain ⟨hn, rfl⟩ := hc
      split at hf
      · rename_i a ha
        split at hf
        · rename_i hl
          split at hf
          · rename_i b hb
            cases hf
            have h1 := h g (by simp) a ha hl
            have h2 := ZpG fs (g.offset + a.length) b hb (by rw [List.length_append] at hlen; omega) (fun g' hg' => h g' (by simp [hg']))
            rw [<- List.take_append_drop a.length (cs.drop g.offset), List.drop_drop]
            rw [<- hl] at h1
            exact Zi3 h1 h2
          · cases hf
        · cases hf
      · cases hf
    · cases hf
theorem Zgj : ∀ (m : Nat) (t : TypeId) (l : List (Option IntKind)), ZcA P m t = some l -> l.length = P.cellsOf t -> ∀ (D : Nat) (cs : List Value) (ls : List Lit), P.keyLits D t cs = some ls -> Zf2 l cs
  | 0, _, _, h, _ => by simp [ZcA] at h
  | m + 1, t, l, h, hlen => by
    intro D cs ls hk
    cases D with
    | zero => simp [Program.keyLits] at hk
    | succ D =>
      simp only [ZcA] at h
      split at h
      · rename_i k hu
        cases h
        unfold Program.keyLits at hk
        rw [hu] at hk
        split at hk
        all_goals first
          | (cases hk; done)
          | (simp_all; done)
          | skip
        rename_i q q' n heq
        split at hk
        · rename_i hc
          cases heq
          obtain ⟨rfl, hw⟩ := hc
          exact ⟨⟨n, rfl, hw⟩, trivial⟩
        · cases hk
      · rename_i hu
        cases h
        obtain ⟨b, rfl, _⟩ := keyLits_bool' hu hk
        exact ⟨⟨b, rfl⟩, trivial⟩
      · rename_i n e hu
        split at h
        · rename_i le he
          split at h
          · rename_i hl
            cases h
            unfold Program.keyLits at hk
            simp only [hu] at hk
            split at hk
            · rename_i hcs
              simp only [Option.map_eq_some_iff] at hk
              obtain ⟨as, has, _⟩ := hk
              refine ZpV hl n cs ?_ fun i hi => ?_
              · rw [hcs, <- hlen]; simp [hl]
              · obtain ⟨y, hy⟩ := ZiB has i (by simpa using hi)
                exact Zgj m e le he hl D _ y hy
            · cases hk
          · cases h
        · cases h
      · rename_i fs hu
        split at h
        · unfold Program.keyLits at hk
          simp only [hu] at hk
          split at hk
          · rename_i hcs
            simp only [Option.map_eq_some_iff] at hk
            obtain ⟨as, has, _⟩ := hk
            have := ZpG (cs := cs) fs.toList 0 l h (by rw [hcs.1, hlen, Nat.zero_add]) fun g hg a ha hl => by
              obtain ⟨y, hy⟩ := ZiB has g hg
              exact Zgj m g.type a ha hl D _ y hy
            simpa using this
          · cases hk
        · cases h
      · cases h
variable {W : World} {H : Type} {enc : TypeId × Value -> H}
theorem ZuF {t : TypeId} {v : Value} {d : DataW H} {ps : List MemPlace} {b0 m m' : Nat} {l : List (Option IntKind)} (hk : ZcA P m t = some l) (hl : l.length = P.cellsOf t) (hkt : P.keyTypeAt m' t = true) (ha : ZlN P t = true)
    (hval : Value.okWide P W .any b0 t v) (hd : DataW.Trod enc P W 0 (fun _ => true) true t v d ps) : ∃ cs : List Value, v = .agg cs.toArray /\ Zf2 l cs := by
  have hv : ∃ cs : Array Value, v = .agg cs := by
    unfold ZlN at ha
    unfold Value.okWide at hval
    split at ha
    · rename_i hu; rw [hu] at hval; obtain ⟨cs, rfl, _⟩ := hval; exact ⟨cs, rfl⟩
    · rename_i hu; rw [hu] at hval; obtain ⟨cs, rfl, _⟩ := hval; exact ⟨cs, rfl⟩
    · cases ha
  obtain ⟨cs, rfl⟩ := hv
  obtain ⟨fuel, hf⟩ := hd
  have := (keyLits_of_trod m' t hkt fuel _ _ hf).1
  exact ⟨cs.toList, by simp, Zgj m t l hk hl _ _ _ (by simpa [Value.cells] using this)⟩
end
end Go.Sx
