/- The operations that build structs, arrays and slices of what is at hand. -/
import Derived.Test.YtggpebgigddogaaSxMem
namespace Go.Sx
section
variable {P : Program} {a : Act} {o : Oper} {w w0 : World} {fp : Nat → Nat → Prop} {ρ : Rho} {H : Heap} {e : Env} {nt : Nat} {K : SVal → Heap → Prop}

theorem run_mapM_list {α β : Type} (g : α → Sem β) (f : α → β) : ∀ (l : List α), (∀ x ∈ l, (g x).run P w = .ok (f x) w) → (l.mapM g).run P w = .ok (l.map f) w
  | [], _ => by simp
  | x :: r, h => by
    rw [List.mapM_cons, Sem.run_bind, h x (by simp), Result.andThen_ok, Sem.run_bind, run_mapM_list g f r (fun y hy => h y (by simp [hy]))]
    simp
theorem run_mapM {α β : Type} (g : α → Sem β) (f : α → β) (xs : Array α) (h : ∀ x ∈ xs.toList, (g x).run P w = .ok (f x) w) : (xs.mapM g).run P w = .ok (xs.map f) w := by
  rw [Array.mapM_eq_mapM_toList, Sem.run_map, run_mapM_list g f xs.toList h, Result.andThen_ok, ← Array.toList_map, Array.toArray_toList]

theorem foldl_splice (off : Nat) : ∀ (l : List Value) (k : Nat) (cells : Array Value), off + k + l.length ≤ cells.size →
    ((l.zipIdx k).foldl (fun cs (p : Value × Nat) => cs.setIfInBounds (off + p.2) p.1) cells).toList = cells.toList.take (off + k) ++ l ++ cells.toList.drop (off + k + l.length)
  | [], k, cells, _ => by simp
  | v :: r, k, cells, h => by
    simp only [List.zipIdx_cons, List.foldl_cons]
    rw [foldl_splice off r (k + 1) _ (by simp at h ⊢; omega), Array.toList_setIfInBounds]
    simp only [List.length_cons] at h
    have hL : cells.toList.length = cells.size := Array.length_toList
    generalize cells.toList = L at *
    apply List.ext_getElem?
    intro i
    rw [splice_get, splice_get, List.length_take, List.length_take, List.length_set, Nat.min_eq_left (by omega), Nat.min_eq_left (by omega), List.length_cons]
    by_cases h1 : i < off + k
    · rw [if_pos (by omega), if_pos h1, List.getElem?_take_of_lt (by omega), List.getElem?_take_of_lt h1, List.getElem?_set_ne (by omega)]
    · by_cases h2 : i = off + k
      · subst h2
        rw [if_pos (by omega), if_neg (by omega), if_pos (by omega), List.getElem?_take_of_lt (by omega), Nat.sub_self, List.getElem?_set_self (by omega)]
        simp
      · rw [if_neg (by omega), if_neg h1]
        by_cases h3 : i < off + k + (r.length + 1)
        · rw [if_pos (by omega), if_pos h3, show i - (off + k) = i - (off + (k + 1)) + 1 by omega]; simp
        · rw [if_neg (by omega), if_neg h3, List.getElem?_drop, List.getElem?_drop, List.getElem?_set_ne (by omega)]
          congr 1; omega

theorem fill_step (place : Nat → Option (Nat × Nat)) (cells : Array Value) (i : Nat) (v : Value) (rest : List (Nat × Value)) {off sz : Nat} (hp : place i = some (off, sz)) (hv : v.cells.size = sz) (hle : off + sz ≤ cells.size) :
    ∃ cells' : Array Value, Instr.fill place cells ((i, v) :: rest) = Instr.fill place cells' rest ∧ cells'.toList = cells.toList.take off ++ v.cells.toList ++ cells.toList.drop (off + sz) := by
  refine ⟨v.cells.zipIdx.foldl (fun cs (p : Value × Nat) => cs.setIfInBounds (off + p.2) p.1) cells, ?_, ?_⟩
  · simp only [Instr.fill, hp]
    rw [if_neg (by simp [hv]; omega)]
  · rw [← Array.foldl_toList, Array.toList_zipIdx]
    have := foldl_splice off v.cells.toList 0 cells (by simp [hv]; exact hle)
    simp only [Nat.add_zero, Array.length_toList, hv] at this
    exact this

theorem build_fill {t : TypeId} {place : Nat → Option (Nat × Nat)} (hplace : ∀ i off sz x y (r : List (Nat × Nat × Opd)) (q : List (Nat × Operand)), fitsB P t ((off, sz, x) :: r) ((i, y) :: q) = true → place i = some (off, sz))
    (he : EnvOk ρ H.next nt e a.tmps) : ∀ {ps : List (Nat × Nat × Opd)} {qs : List (Nat × Operand)} {zs : List Chunk} {K : List Chunk → Prop} {cells : Array Value}, fitsB P t ps qs = true → evBuild e ps zs K → okCs ρ H.next zs → cells.toList = concCs ρ zs →
    ∃ cs cells', K cs ∧ okCs ρ H.next cs ∧ Instr.fill place cells (qs.map fun p => (p.1, a.eval p.2)) = some cells' ∧ cells'.toList = concCs ρ cs
  | [], [], zs, K, cells, _, h, hok, hc => ⟨zs, cells, h, hok, rfl, hc⟩
  | (off, sz, x) :: r, (i, y) :: q, zs, K, cells, hf, h, hok, hc => by
    have hpl := hplace i off sz x y r q hf
    simp only [fitsB, Bool.and_eq_true] at hf
    simp only [evBuild] at h
    obtain ⟨v, h1, h2, h3⟩ := Opd.ev_sound hf.1.1 he h
    obtain ⟨hsz, h4⟩ := bif_prop h1
    have hsz := beq_eq hsz
    obtain ⟨cs', h5, h6, h7, h8, h9⟩ := wrA_sound (chunks_ok h2) hsz _ _ _ h4 hok
    rw [Nat.zero_mul, Nat.add_zero] at h8 h9
    have hcs : cells.size = lenCs zs := by rw [← Array.length_toList, hc, concCs_length]
    have hvs : (v.conc ρ).cells.size = sz := by rw [← Array.length_toList, chunks_conc, concCs_length, hsz]
    obtain ⟨cells1, h10, h11⟩ := fill_step place cells i (v.conc ρ) (q.map fun p => (p.1, a.eval p.2)) hpl hvs (by omega)
    rw [hc, chunks_conc, ← h9] at h11
    obtain ⟨cs, cells', h12, h13, h14, h15⟩ := build_fill hplace he hf.2 h5 h6 h11
    exact ⟨cs, cells', h12, h13, by rw [List.map_cons, h3, h10]; exact h14, h15⟩
  | [], _ :: _, _, _, _, hf, _, _, _ => by cases hf
  | _ :: _, [], _, _, _, hf, _, _, _ => by cases hf

theorem cellsOf_size {t : TypeId} {n : Nat} (h : sizeIs P t n = true) : ∃ i, P.info? t = some i ∧ i.size = n := by
  unfold sizeIs at h
  split at h
  · rename_i i hi; exact ⟨i, hi, Nat.eq_of_beq_eq_true h⟩
  · cases h

theorem build_sound {zs : List Chunk} {ps : List (Nat × Nat × Opd)} (hf : (AOp.build zs ps).fits P o.op = true) (he : EnvOk ρ H.next nt e a.tmps) (_hr : Rel w0 fp ρ H w) {Γ} (h : evOp Γ (.build zs ps) e H K) : Looks P a o w0 fp ρ H K := by
  simp only [AOp.fits] at hf
  simp only [evOp] at h
  split at hf
  · rename_i t parts hop
    rw [Bool.and_eq_true, Bool.and_eq_true] at hf
    obtain ⟨⟨hz, hall⟩, hps⟩ := hf
    obtain ⟨zv, hz1, hz2, hz3⟩ := run_zeroValue' hz
    have hz4 := plainCs_ok (ρ := ρ) (n := H.next) hz2
    have hparts : (parts.map fun (p : Nat × Operand) => (p.1, a.eval p.2)).toList = parts.toList.map fun p => (p.1, a.eval p.2) := by simp
    unfold allSized at hall
    split at hall
    · rename_i fs hu
      let sz : Field → Nat := fun f => ((P.info? f.type).map (·.size)).getD 0
      have hm := fun w : World => run_mapM (P := P) (w := w) (fun f : Field => (do pure (f.offset, ← sizeOf f.type) : Sem (Nat × Nat))) (fun f => (f.offset, sz f)) fs (fun f hf => by
        have := List.all_eq_true.1 hall f hf
        obtain ⟨i, hi⟩ := Option.isSome_iff_exists.1 this
        simp [sizeOf, typeInfo, hi, sz])
      obtain ⟨cs, cells', h1, h2, h3, h4⟩ := build_fill (P := P) (t := t) (place := ((fs.map fun f => (f.offset, sz f))[·]?)) (fun i off s x y r q hfb => by
        simp only [fitsB, Bool.and_eq_true, hu] at hfb
        have hfb := hfb.1.2
        split at hfb
        · rename_i fd hfd
          rw [Bool.and_eq_true] at hfb
          obtain ⟨inf, hi1, hi2⟩ := cellsOf_size hfb.2
          have := Nat.eq_of_beq_eq_true hfb.1
          simp [hfd, sz, hi1, hi2, this]
        · cases hfb) he hps h hz4.1 (cells := zv.cells) (by rw [hz3, hz4.2])
      refine ⟨_, h1, (by simpa only [SVal.ok] using h2), fun w hr => ?_⟩
      have : cells' = (concCs ρ cs).toArray := by rw [← h4]
      subst this
      simp only [execOp, hop, Instr.build, Sem.run_bind, hz1, Result.andThen_ok, run_underlying hu, hm, hparts, h3, Sem.run_pure, SVal.conc]
    · rename_i n el hu
      obtain ⟨cs, cells', h1, h2, h3, h4⟩ := build_fill (P := P) (t := t) (place := fun i => some (i * ((P.info? el).map (·.size)).getD 0, ((P.info? el).map (·.size)).getD 0)) (fun i off s x y r q hfb => by
        simp only [fitsB, Bool.and_eq_true, hu] at hfb
        have hfb := hfb.1.2
        obtain ⟨inf, hi1, hi2⟩ := cellsOf_size hfb.1
        have := Nat.eq_of_beq_eq_true hfb.2
        simp [hi1, hi2, this]) he hps h hz4.1 (cells := zv.cells) (by rw [hz3, hz4.2])
      obtain ⟨inf, hel⟩ := Option.isSome_iff_exists.1 hall
      refine ⟨_, h1, (by simpa only [SVal.ok] using h2), fun w hr => ?_⟩
      have : cells' = (concCs ρ cs).toArray := by rw [← h4]
      subst this
      simp only [hel, Option.map_some, Option.getD_some] at h3
      simp only [execOp, hop, Instr.build, Sem.run_bind, hz1, Result.andThen_ok, run_underlying hu, sizeOf, typeInfo, run_program, hel, hparts, h3, Sem.run_pure, SVal.conc]
    · cases hall
  · cases hf

theorem fill_ints {k : IntKind} {e : Env} {a : Act} (he : EnvOk ρ H.next nt e a.tmps) : ∀ {ps : List (Nat × Opd)} {qs : List (Nat × Operand)} {xs : List Int} {K : List Int → Prop}, fitsI ps qs = true → evInts e k ps xs K →
    ∃ ys, K ys ∧ ys.length = xs.length ∧ Instr.fill (fun i => some (i * 1, 1)) (xs.map (Value.int k)).toArray (qs.map fun p => (p.1, a.eval p.2)) = some (ys.map (Value.int k)).toArray
  | [], [], xs, K, _, h => ⟨xs, h, rfl, rfl⟩
  | (i, x) :: r, (j, y) :: q, xs, K, hf, h => by
    simp only [fitsI, Bool.and_eq_true] at hf
    have := Nat.eq_of_beq_eq_true hf.1.1
    subst this
    simp only [evInts] at h
    obtain ⟨v, h1, h2, h3⟩ := Opd.ev_sound hf.1.2 he h
    split at h1
    · rename_i k' n
      obtain ⟨h0, h5⟩ := bif_prop h1
      rw [Bool.and_eq_true] at h0
      obtain rfl := kEq_eq h0.1
      have h4 : i < xs.length := Nat.le_of_ble_eq_true h0.2
      obtain ⟨ys, h6, h7, h8⟩ := fill_ints he hf.2 h5
      refine ⟨ys, h6, by rw [h7, List.length_set], ?_⟩
      simp only [SVal.conc] at h3
      obtain ⟨cells', h9, h10⟩ := fill_step (fun i => some (i * 1, 1)) (xs.map (Value.int k')).toArray i (.int k' n) (q.map fun p => (p.1, a.eval p.2)) (off := i * 1) (sz := 1) rfl rfl (by simp; omega)
      have : cells' = ((xs.set i n).map (Value.int k')).toArray := by
        rw [← Array.toArray_toList (xs := cells'), h10, List.map_set, List.set_eq_take_append_cons_drop, if_pos (by simpa using h4)]
        simp [Value.cells]
      rw [List.map_cons, h3, h9, this, h8]
    · exact h1.elim
  | [], _ :: _, _, _, hf, _ => by cases hf
  | _ :: _, [], _, _, hf, _ => by cases hf

theorem zerosL_eq : ∀ n, zerosL n = List.replicate n 0
  | 0 => rfl
  | n + 1 => by rw [zerosL, zerosL_eq n, List.replicate_succ]

theorem intsConc_eq {k : IntKind} {n : Nat} {xs : List Int} (h : xs.length = n) : intsConc k n xs = xs.map (Value.int k) := by
  apply List.ext_getElem?
  intro i
  rcases Nat.lt_or_ge i n with hi | hi
  · rw [intsConc_get _ _ _ _ hi]; simp [show i < xs.length by omega]
  · rw [List.getElem?_eq_none (by rw [intsConc_length]; exact hi), List.getElem?_eq_none (by simp; omega)]

theorem buildI_sound {k : IntKind} {n : Nat} {ps : List (Nat × Opd)} (hf : (AOp.buildI k n ps).fits P o.op = true) (he : EnvOk ρ H.next nt e a.tmps) (_hr : Rel w0 fp ρ H w) {Γ} (h : evOp Γ (.buildI k n ps) e H K) : Looks P a o w0 fp ρ H K := by
  simp only [AOp.fits] at hf
  simp only [evOp] at h
  split at hf
  · rename_i t parts hop
    rw [Bool.and_eq_true, Bool.and_eq_true] at hf
    obtain ⟨⟨hz, hps⟩, ht⟩ := hf
    obtain ⟨zv, hz1, hz2, hz3⟩ := run_zeroValue' hz
    split at ht
    · rename_i m el hu
      obtain ⟨inf, hi1, hi2⟩ := cellsOf_size ht
      obtain ⟨ys, h1, h2, h3⟩ := fill_ints he hps h
      have hys : ys.length = n := by rw [h2, zerosL_eq]; simp
      have hparts : (parts.map fun (p : Nat × Operand) => (p.1, a.eval p.2)).toList = parts.toList.map fun p => (p.1, a.eval p.2) := by simp
      have hzc : zv.cells = ((zerosL n).map (Value.int k)).toArray := by
        rw [← Array.toArray_toList (xs := zv.cells), hz3]
        simp only [concCs, Chunk.conc, List.append_nil]
        rw [intsConc_eq (by rw [zerosL_eq]; simp)]
      refine ⟨_, h1, (by simp [SVal.ok, okCs, Chunk.ok]), fun w hr => ?_⟩
      simp only [execOp, hop, Instr.build, Sem.run_bind, hz1, Result.andThen_ok, run_underlying hu, sizeOf, typeInfo, run_program, hi1, hi2, hparts, hzc, h3, Sem.run_pure, SVal.conc, concCs, Chunk.conc, List.append_nil, intsConc_eq hys]
    · cases ht
  · cases hf

theorem bslice_sound {k : IntKind} {n : Nat} {ps : List (Nat × Opd)} (hf : (AOp.bslice k n ps).fits P o.op = true) (he : EnvOk ρ H.next nt e a.tmps) (hr : Rel w0 fp ρ H w) {Γ} (h : evOp Γ (.bslice k n ps) e H K) : Runs P a o w (OpPost w0 fp ρ H K) := by
  simp only [AOp.fits] at hf
  simp only [evOp] at h
  split at hf
  · rename_i t n' parts hop
    rw [Bool.and_eq_true, Bool.and_eq_true, Bool.and_eq_true] at hf
    obtain ⟨⟨⟨hn, hle⟩, hps⟩, ht⟩ := hf
    have := Nat.eq_of_beq_eq_true hn
    subst this
    have hle := Nat.le_of_ble_eq_true hle
    split at ht
    · rename_i el hu
      rw [Bool.and_eq_true] at ht
      obtain ⟨inf, hi1, hi2⟩ := cellsOf_size ht.1
      obtain ⟨zv, hz1, hz2, hz3⟩ := run_zeroValue (w := w) ht.2
      rw [zerosL_eq] at h
      obtain ⟨ys, h1, h2, h3⟩ := fill_ints he hps h
      have hzc : zv.cells = #[.int k 0] := by
        rw [← Array.toArray_toList (xs := zv.cells), hz3]; simp [concCs, Chunk.conc, SVal.conc]
      have hparts : (parts.map fun (p : Nat × Operand) => (p.1, a.eval p.2)).toList = parts.toList.map fun p => (p.1, a.eval p.2) := by simp
      have hzz : (Array.range (n * 1)).map (fun x => (#[Value.int k 0] : Array Value)[x % 1]!) = ((List.replicate n (0 : Int)).map (Value.int k)).toArray := by
        apply Array.ext
        · simp
        · intro i h1 h2
          simp [Nat.mod_one]
      have hys : ys.length = n := by simpa using h2
      refine ⟨.slice (some ⟨w.heap.size, 0, none⟩) n n, _, .inl ?_, ⟨ρ.up H.next (some (w.heap.size, 0)), _, _, h1, ?_, ?_, Rho.up_lt, by simp [Heap.push],
        hr.alloc (cells := (ys.map (Value.int k)).toArray) (t := el) (by simp [okCs, Chunk.ok]) ⟨[], by simp [concCs, Chunk.conc, intsConc_eq hys], rfl⟩⟩⟩
      · have hsz : (sizeOf el).run P w = .ok 1 w := by simp [sizeOf, typeInfo, hi1, hi2]
        have h16 : ¬ (n * 1 > 2 ^ 24) := by omega
        simp only [execOp, hop, Instr.buildSlice, Sem.run_bind, run_underlying hu, Result.andThen_ok, hsz, if_neg h16]
        by_cases hn0 : n = 0
        · subst hn0
          have : ys = [] := List.eq_nil_of_length_eq_zero hys
          subst this
          simp only [List.replicate_zero, List.map_nil] at h3
          have hz0 : ∀ f : Nat → Value, (Array.range (0 * 1)).map f = #[] := fun f => by simp
          simp only [Nat.zero_mul, if_true, Sem.run_pure]
          simp only [Nat.zero_mul] at hz0
          simp only [hz0, hparts, h3, newRow, Sem.run_bind, run_newObj, Result.andThen_ok, Sem.run_pure]
          rfl
        · have hn1 : ¬ (n * 1 = 0) := by omega
          simp only [if_neg hn1, Sem.run_bind, hz1, Result.andThen_ok, Sem.run_pure, hzc, List.size_toArray, List.length_singleton, hzz, hparts, h3, newRow, run_newObj]
          rfl
      · simp [SVal.conc, SAddr.conc, Rho.up_same]
      · simp [SVal.ok, Heap.push, Rho.up_same]
    · cases ht
  · cases hf
end
end Go.Sx
