/- Part of the proof: SxRowH. -/
import Derived.Test.YtfffjdfegnmejaaSxPtr
set_option linter.unusedVariables false
set_option linter.unusedSimpArgs false
namespace Go.Sx
section
variable {P : Program} {a : Act} {o : Oper} {w w0 : World} {fp : Nat -> Nat -> Prop} {ρ : Rho} {H : Heap} {e : Env} {nt : Nat} {K : SVal -> Heap -> Prop}
theorem Znj {k : IntKind} {ps : List Opd} (hf : (AOp.bsliceH k ps).fits P o.op = true) (he : EnvOk ρ H.next nt e a.tmps) (hr : Rel w0 fp ρ H w) {Γ} (h : ZaV Γ (.bsliceH k ps) e H K) : Runs P a o w (OpPost w0 fp ρ H K) := by
  simp only [AOp.fits] at hf
  simp only [ZaV] at h
  split at hf
  · rename_i t n' parts hop
    simp only [Bool.and_eq_true] at hf
    obtain ⟨⟨⟨hn, hle⟩, hps⟩, ht⟩ := hf
    have hn := Zaq hn
    have hle := Nat.le_of_ble_eq_true hle
    obtain ⟨el, inf, z, hu, hi, hs, hb, hs1, hz, hzc, hzero⟩ := ZcT ht
    obtain ⟨zv, hz1, hz2, hz3⟩ := ZcC (w := w) hzero
    have hs' : inf.size = 1 := hs
    have hsz : (sizeOf el).run P w = .ok 1 w := by simp [sizeOf, typeInfo, hi, hs']
    have h16 : ¬ (n' * 1 > 2 ^ 24) := by omega
    cases ps with
    | nil =>
      simp only [List.length_nil] at hn
      subst hn
      have hp0 : parts.toList = [] := by
        cases hp : parts.toList with
        | nil => rfl
        | cons q r => rw [hp] at hps; simp [Zkn] at hps
      have hpm : (parts.map fun (p : Nat × Operand) => (p.1, a.eval p.2)).toList = [] := by simp [hp0]
      have hal := hr.alloc (cs := [.rows [.hd] 0 []]) (ex := 0) (cells := #[]) (t := el) (by simp [ZaE, Chunk.ok]) ⟨[], by simp [Zab, Chunk.conc, Zal], rfl⟩
      have hfi : (H.push ⟨true, [.rows [.hd] 0 []], 0⟩).find H.next = some ⟨true, [.rows [.hd] 0 []], 0⟩ := by rw [Heap.find_push, if_pos rfl]
      have hsm := hal.sameH (cs' := [.rows [.hd] 0 [], .rows [.ints k 0] 0 []]) hfi (by simp [Zab, Chunk.conc, Zal]) (by simp [ZaE, Chunk.ok]) rfl (fun n hs f hf i hi => by
        have := Zn7 hf
        simp [Zam, Chunk.len] at this
        omega)
      refine ⟨.slice (some ⟨w.heap.size, 0, none⟩) 0 0, w.alloc (.cells #[] el), .inl ?_, ρ.up H.next (some (w.heap.size, 0)), _, _, h, ?_, ?_, Rho.up_lt, by simp [Heap.push], ?_⟩
      · simp only [execOp, hop, Instr.buildSlice, Sem.run_bind, run_underlying hu, Result.andThen_ok, hsz, if_neg h16]
        have hz0 : ∀ f : Nat -> Value, (Array.range 0).map f = #[] := fun f => by simp
        simp only [Nat.zero_mul, if_pos, Sem.run_pure, Result.andThen_ok, hpm, Instr.fill, newRow, Sem.run_bind, run_newObj, hz0]
        rfl
      · simp [SVal.conc, SAddr.conc, Rho.up_same]
      · simp [SVal.ok, Heap.push, Rho.up_same]
      · refine Rel.ext0 hsm (fun i => ?_) rfl
        rw [Heap.find_set, Heap.find_push, Heap.find_push]
        split <;> rfl
    | cons x r =>
      cases r with
      | cons _ _ => simp only [List.length_cons] at hn; omega
      | nil =>
        simp only [List.length_singleton] at hn
        subst hn
        obtain ⟨y, hq⟩ : ∃ y, parts.toList = [(0, y)] := by
          cases hp : parts.toList with
          | nil => rw [hp] at hps; simp [Zkn] at hps
          | cons q r =>
            obtain ⟨j, y⟩ := q
            rw [hp] at hps
            simp only [Zkn, Bool.and_eq_true] at hps
            cases r with
            | nil => exact ⟨y, by rw [Zaq hps.1.1]⟩
            | cons _ _ => simp [Zkn] at hps
        rw [hq] at hps
        simp only [Zkn, Bool.and_eq_true] at hps
        obtain ⟨v, h1, h2, h3⟩ := Opd.ev_sound hps.1.2 he h
        split at h1
        · rename_i ad l c
          have hpm : (parts.map fun (p : Nat × Operand) => (p.1, a.eval p.2)).toList = [(0, (SVal.slice ad l c).conc ρ)] := by simp [hq, h3]
          have hal := hr.alloc (cs := [.one (.slice ad l c)]) (ex := 0) (cells := #[(SVal.slice ad l c).conc ρ]) (t := el) (by simp only [ZaE, Chunk.ok]; exact ⟨h2, trivial⟩) ⟨[], by simp [Zab, Chunk.conc], rfl⟩
          refine ⟨.slice (some ⟨w.heap.size, 0, none⟩) 1 1, w.alloc (.cells #[(SVal.slice ad l c).conc ρ] el), .inl ?_, ρ.up H.next (some (w.heap.size, 0)), _, _, h1, ?_, ?_, Rho.up_lt, by simp [Heap.push], hal⟩
          · have hzs : zv.cells.size = 1 := by rw [<- Array.length_toList, hz3]; rfl
            have hsc : ((SVal.slice ad l c).conc ρ).cells = #[(SVal.slice ad l c).conc ρ] := by simp [SVal.conc, Value.cells]
            have hn1 : ¬ (1 * 1 = 0) := by omega
            obtain ⟨cells1, g6, g7⟩ := ZgW (fun i => some (i * 1, 1)) ((Array.range (1 * 1)).map (fun x => zv.cells[x % zv.cells.size]!)) 0 ((SVal.slice ad l c).conc ρ) [] rfl (by rw [hsc]; rfl) (by simp)
            have hc1 : cells1 = #[(SVal.slice ad l c).conc ρ] := by
              rw [<- Array.toArray_toList (xs := cells1), g7, hsc]
              simp
            have hfill : Instr.fill (fun i => some (i * 1, 1)) ((Array.range (1 * 1)).map (fun x => zv.cells[x % zv.cells.size]!)) [(0, (SVal.slice ad l c).conc ρ)] = some #[(SVal.slice ad l c).conc ρ] := by
              rw [g6, hc1]; rfl
            simp only [execOp, hop, Instr.buildSlice, Sem.run_bind, run_underlying hu, Result.andThen_ok, hsz, if_neg h16, if_neg hn1, hz1, Sem.run_pure, hpm, hfill, newRow, run_newObj]
            rfl
          · simp [SVal.conc, SAddr.conc, Rho.up_same]
          · simp [SVal.ok, Heap.push, Rho.up_same]
        · exact h1.elim
  · cases hf
theorem Zga {n : Nat} {r : Opd} {K : SVal -> Prop} (he : EnvOk ρ n nt e a.tmps) (h : r.ev e K) : ∃ v, K v /\ (∀ m, r = .tm m -> v.ok ρ n) := by
  cases r with
  | cn v => exact ⟨v, h, fun m hm => by cases hm⟩
  | tm m =>
    simp only [Opd.ev] at h
    split at h
    · rename_i v hv
      exact ⟨v, h, fun m' hm => by cases hm; exact (he.2 _ _ hv).1⟩
    · exact h.elim
theorem ZAc {id n : Nat} {wr : Bool} {hs : List (Tup [.hd])} {k : IntKind} {cs : List (Tup [.ints k 0])} {ex i : Nat} (hr : Rel w0 fp ρ H w) (hen : H.find id = some ⟨wr, [.rows [.hd] n hs, .rows [.ints k 0] 0 cs], ex⟩) (hi : i < n) (hl : 0 < (List.getD cs i ([] : List Int)).length) :
    ∃ b o c, List.getD hs i (none, 0, 0) = (some (b, o), (List.getD cs i ([] : List Int)).length, c) /\ ∀ (w' : World), Rel w0 fp ρ H w' -> ∀ j, j < (List.getD cs i ([] : List Int)).length -> w'.cell? ⟨b, o + j, none⟩ = some (.int k ((List.getD cs i ([] : List Int)).getD j 0)) := by
  have hf : Za2 [.rows [.hd] n hs, .rows [.ints k 0] 0 cs] = some (n, hs, fun i => ((cs.getD i []).length, Zap k (cs.getD i []).length (cs.getD i []))) := by cases k <;> rfl
  rcases hr.hid id _ n hs _ hen hf i hi with ⟨_, h2, _⟩ | ⟨b, o, c, h1, h2, h3⟩
  · simp only at h2; omega
  · refine ⟨b, o, c, h1, fun w' hr' j hj => ?_⟩
    rcases hr'.hid id _ n hs _ hen hf i hi with ⟨_, h2', _⟩ | ⟨b', o', c', h1', h2', h3'⟩
    · simp only at h2'; omega
    · rw [h1] at h1'
      cases h1'
      refine (h3' j _ ?_).1
      exact Zaw _ _ _ _ hj
theorem Zdo {x : Opd} (hf : (AOp.loadHq x).fits P o.op = true) (he : EnvOk ρ H.next nt e a.tmps) (hr : Rel w0 fp ρ H w) {Γ} (h : ZaV Γ (.loadHq x) e H K) : Looks P a o w0 fp ρ H K := by
  simp only [AOp.fits] at hf
  simp only [ZaV] at h
  split at hf
  · rename_i t x' hop
    rw [Bool.and_eq_true] at hf
    obtain ⟨v, h, hok, h3⟩ := Opd.ev_sound hf.1 he h
    split at h
    · rename_i ad n
      simp only [SVal.ok] at hok
      split at h
      · rename_i wr m hs k cs ex hen
        obtain ⟨h0, h1, hK⟩ := Zai h
        rw [Bool.and_eq_true] at h0
        obtain ⟨b, base, hb, hc, hent⟩ := ZgE hr hok hen
        have hcell := fun (w : World) (hr : Rel w0 fp ρ H w) => (hr.ents _ _ hen).cells b base hb _ _ (Zo4 (ρ := ρ) (hs := hs) (d := .rows [.ints k 0] 0 cs) h1)
        refine ⟨_, hK, trivial, fun w hr => ?_⟩
        rw [Zaq h0.1, Zaq h0.2, Nat.zero_add, Nat.mul_one] at hc
        simp only [SVal.conc, hc] at h3
        simp [execOp, hop, h3, Instr.loadAt, Instr.sureAddr, loadVar, Zcr hf.2, hcell w hr, SVal.conc, Zho, ZaQ]
      · exact h.elim
    · exact h.elim
  · cases hf
theorem Zd9 {x i r : Opd} (hf : (AOp.idxHq x i r).fits P o.op = true) (he : EnvOk ρ H.next nt e a.tmps) (hr : Rel w0 fp ρ H w) {Γ} (h : ZaV Γ (.idxHq x i r) e H K) : Looks P a o w0 fp ρ H K := by
  simp only [AOp.fits] at hf
  simp only [ZaV] at h
  split at hf
  · rename_i t x' i' hop
    rw [Bool.and_eq_true, Bool.and_eq_true] at hf
    obtain ⟨p, hp, hok, h3⟩ := Opd.ev_sound hf.1.1 he h
    clear h
    obtain ⟨u, hu', huok, h5⟩ := Opd.ev_sound hf.1.2 he hp
    clear hp
    obtain ⟨v, h, hgg⟩ := Zga he hu'
    have hs := hf.2
    split at h
    · rename_i vv k n ad m
      split at h
      · rename_i wr nn hs' k2 cs ex hen
        obtain ⟨h1, h2, h4, h6, hK⟩ := h
        unfold Zlp at hs
        split at hs
        · rename_i el hu
          obtain ⟨b, o1, c, g1, _⟩ := ZAc hr hen h2 (by omega)
          simp only [SVal.conc] at h3 h5
          have hlt : n < ((List.length (List.getD cs ad.idx ([] : List Int)) : Nat) : Int) := h6
          refine ⟨_, hK, trivial, fun w hr => ?_⟩
          rw [h1] at h3
          clear h1 hK h6 hu' huok hok
          generalize List.length (List.getD cs ad.idx ([] : List Int)) = L at *
          generalize List.getD hs' ad.idx (none, 0, 0) = hh at *
          subst g1
          simp only [Zho, Option.map_some] at h3
          simp [execOp, hop, h3, h5, Instr.indexAt, asIntOf, run_underlying hu, h4, hlt, Zbw hs, ZbA, SVal.conc, Zho, ZiG]
        · cases hs
      · exact h.elim
    · exact h.elim
  · cases hf
theorem Zdn {x r i : Opd} (hf : (AOp.loadRq x r i).fits P o.op = true) (he : EnvOk ρ H.next nt e a.tmps) (hr : Rel w0 fp ρ H w) {Γ} (h : ZaV Γ (.loadRq x r i) e H K) : Looks P a o w0 fp ρ H K := by
  simp only [AOp.fits] at hf
  simp only [ZaV] at h
  split at hf
  · rename_i t x' hop
    rw [Bool.and_eq_true] at hf
    obtain ⟨p, hp, hok, h3⟩ := Opd.ev_sound hf.1 he h
    clear h
    obtain ⟨v, hv, hgg⟩ := Zga he hp
    clear hp
    obtain ⟨u, h, hgg2⟩ := Zga he hv
    split at h
    · rename_i vv ad m k n
      split at h
      · rename_i wr nn hs' k2 cs ex hen
        obtain ⟨h1, h2, h4, h6, hK⟩ := h
        obtain ⟨b, o1, c, g1, g2⟩ := ZAc hr hen h2 (by omega)
        simp only [SVal.conc] at h3
        refine ⟨_, hK, trivial, fun w hr => ?_⟩
        rw [h1, g1] at h3
        simp only [Zho, ZiG, Option.map_some] at h3
        have := g2 w hr n.toNat (by omega)
        simp [execOp, hop, h3, Instr.loadAt, Instr.sureAddr, loadVar, Zcr hf.2, this, SVal.conc]
      · exact h.elim
    · exact h.elim
  · cases hf
theorem Zn9 : ∀ (hs : List Hdr), Zal [.hd] hs.length hs = hs.map ZaQ := fun hs => by
  rw [ZaW rfl]
  induction hs with
  | nil => rfl
  | cons x r ih => rw [List.flatMap_cons, List.map_cons, ih]; rfl
theorem Znk {x y : Opd} (hf : (AOp.appendH x y).fits P o.op = true) (he : EnvOk ρ H.next nt e a.tmps) (hr : Rel w0 fp ρ H w) {Γ} (h : ZaV Γ (.appendH x y) e H K) : Runs P a o w (OpPost w0 fp ρ H K) := by
  simp only [AOp.fits] at hf
  simp only [ZaV] at h
  split at hf
  · rename_i xs ts hop
    rw [Bool.and_eq_true] at hf
    obtain ⟨u, v, h', hok, hok', h3⟩ := ZcQ hf.1 he h
    clear h
    obtain ⟨t, t', hts, ht, ht'⟩ := Zgy hf.2
    obtain ⟨el, i, z, hu, hi, hs1, hb8, hst1, hz, hzc0, _⟩ := ZcT ht
    have hs1 : i.size = 1 := hs1
    have hzc : z.cells.size = 1 := by rw [<- Array.length_toList, hzc0]; rfl
    obtain ⟨tel, htel⟩ := ZjG ht'
    have hta : ts = #[t, t'] := by rw [<- Array.toArray_toList (xs := ts), hts]
    have hexec : (execOp a.eval o).run P w = ((Builtin.append_ #[t, t'] o.type #[u.conc ρ, v.conc ρ]).run P w).andThen fun v w' => .ok (.value v) w' := by
      simp [execOp, hop, resolve, invoke, builtin, h3, hta]
    suffices hs : ∃ r w', (Builtin.append_ #[t, t'] o.type #[u.conc ρ, v.conc ρ]).run P w = .ok r w' /\ OpPost w0 fp ρ H K r w' by
      obtain ⟨r, w', h1, h2⟩ := hs
      exact ⟨r, w', .inl (by rw [hexec, h1]; rfl), h2⟩
    split at h'
    · rename_i ad len cap bd bcap
      simp only [SVal.ok] at hok hok'
      split at h'
      · rename_i c l lc hben
        split at h'
        · rename_i k l' xs ex' m hs k2 rows ex hcen haen
          obtain ⟨h0, h1, h2, h4, h5, h6, h7, h8, h9, hK⟩ := Zai h'
          clear h'
          simp only [Bool.and_eq_true] at h0
          obtain ⟨⟨⟨⟨⟨⟨hk, ha0⟩, ha1⟩, hb0⟩, hb1⟩, hc0⟩, hc1⟩ := h0
          obtain rfl := Zb6 hk
          have ha0 := Zaq ha0
          have ha1 := Zaq ha1
          have hb0 := Zaq hb0
          have hb1 := Zaq hb1
          have hc0 := Zaq hc0
          have hc1 := Zaq hc1
          subst h1 h5
          have hne : ad.id ≠ c.id /\ ad.id ≠ bd.id /\ c.id ≠ bd.id := by
            refine ⟨fun hh => ?_, fun hh => ?_, fun hh => ?_⟩
            · rw [hh, hcen] at haen; cases haen
            · rw [hh, hben] at haen; cases haen
            · rw [hh, hben] at hcen; cases hcen
          have hEa := hr.ents _ _ haen
          have hEb := hr.ents _ _ hben
          have hEc := hr.ents _ _ hcen
          -- the header of the row
          let hd : Hdr := ((ρ c.id).map fun p => (p.1, p.2 + 0), l', lc)
          have hcok : c.id < H.next /\ (ρ c.id = none -> l' = 0 /\ lc = 0) := by
            have := hr.oks _ _ hben
            simp only [ZaE, Chunk.ok, SVal.ok] at this
            exact this.1
          have hdc : (SVal.slice c l' lc).conc ρ = ZaQ hd := by
            simp only [SVal.conc, SAddr.conc, hc0, hc1, ZaQ, hd, Option.map_map, Nat.zero_mul, Nat.add_zero]
            rfl
          -- the source
          have hbn : ρ bd.id ≠ none := fun hn => by have := hEb.nil hn; simp [Ent.size, Zam, Chunk.len] at this
          obtain ⟨⟨bb, bo⟩, hbρ⟩ := Option.ne_none_iff_exists'.1 hbn
          have hvc : SVal.conc ρ (.slice bd 1 bcap) = .slice (some ⟨bb, bo, none⟩) 1 bcap := by simp [SVal.conc, SAddr.conc, hbρ, hb0, hb1]
          have hsrc : Src P 1 t' (.slice (some ⟨bb, bo, none⟩) 1 bcap) 1 [ZaQ hd] w := by
            have hone : ∀ u ∈ [ZaQ hd], u.oneCell' = true := fun u hu => by simp only [List.mem_singleton] at hu; subst hu; rfl
            refine Src.ofSlice w htel _ 1 bcap _ rfl (fun j v hj => ?_) hone
            have hj0 : j = 0 := by have := (List.getElem?_eq_some_iff.1 hj).1; simp at this; omega
            subst hj0
            simp only [List.getElem?_cons_zero, Option.some.injEq] at hj
            subst hj
            rw [ZbA, <- hdc]
            exact hEb.cells bb bo hbρ 0 _ (by simp [Zab, Chunk.conc])
          -- rows, old and new, in a world that has the cells that nobody writes
          let Hd : Heap := (((H.drop ad.id).drop bd.id).drop c.id)
          have hHd : ∀ j e', Hd.find j = some e' -> H.find j = some e' /\ j ≠ ad.id /\ j ≠ bd.id /\ j ≠ c.id := fun j e' hj => by
            simp only [Hd, Heap.find_drop] at hj
            split at hj
            · cases hj
            · split at hj
              · cases hj
              · split at hj
                · cases hj
                · rename_i q1 q2 q3
                  exact ⟨hj, fun h => q3 h.symm, fun h => q2 h.symm, fun h => q1 h.symm⟩
          have rowsok : ∀ (w' : World) (q : Option (Nat × Nat)) (ex2 : Nat), Rel w0 fp (ρ.up H.next q) (Hd.push ⟨true, [.rows [.hd] (m + 1) (List.append hs [hd])], ex2⟩) w' ->
              (∀ x o v, w.cell? ⟨x, o, none⟩ = some v -> ¬ Win ρ ad.id ⟨true, [.rows [.hd] m hs, .rows [.ints k 0] 0 rows], ex⟩ x o -> w'.cell? ⟨x, o, none⟩ = some v) ->
              (∀ x o, x < w.heap.size -> Win (ρ.up H.next q) H.next ⟨true, [.rows [.hd] (m + 1) (List.append hs [hd])], ex2⟩ x o -> Win ρ ad.id ⟨true, [.rows [.hd] m hs, .rows [.ints k 0] 0 rows], ex⟩ x o) ->
              Rel w0 fp (ρ.up H.next q) (Hd.push ⟨true, [.rows [.hd] (m + 1) (List.append hs [hd]), .rows [.ints k 0] 0 (List.append rows [xs])], ex2⟩) w' := fun w' q ex2 hr' hcell hwin => by
            have hfi : (Hd.push ⟨true, [.rows [.hd] (m + 1) (List.append hs [hd])], ex2⟩).find H.next = some ⟨true, [.rows [.hd] (m + 1) (List.append hs [hd])], ex2⟩ := by
              rw [Heap.find_push]; exact if_pos rfl
            have hup := Rho.up_lt (ρ := ρ) (id := H.next) (p := q)
            have hWr : ∀ x o, x < w.heap.size -> Wr (ρ.up H.next q) (Hd.push ⟨true, [.rows [.hd] (m + 1) (List.append hs [hd])], ex2⟩) x o -> Wr ρ H x o /\ ¬ Win ρ c.id ⟨true, [.ints k l' xs], ex'⟩ x o := fun x o hx ⟨j, e', hj, hwr, hw⟩ => by
              rw [Heap.find_push] at hj
              split at hj
              · rename_i hid
                have hid : H.next = j := hid
                subst hid
                cases hj
                have := hwin x o hx hw
                exact ⟨⟨_, _, haen, rfl, this⟩, hr.apart _ _ _ _ hne.1 haen hcen rfl x o this⟩
              · obtain ⟨q1, q2, q3, q4⟩ := hHd j e' hj
                have hw' := (Win.congr (hup j (hr.next _ _ q1))).1 hw
                exact ⟨⟨_, _, q1, hwr, hw'⟩, hr.apart _ _ _ _ q4 q1 hcen hwr x o hw'⟩
            have hsm := hr'.sameH (cs' := [.rows [.hd] (m + 1) (List.append hs [hd]), .rows [.ints k 0] 0 (List.append rows [xs])]) hfi (by simp [Zab, Chunk.conc, Zal]) (by simp [ZaE, Chunk.ok]) rfl (fun n hs' f hf j hj => by
              have hf2 : Za2 [.rows [.hd] (m + 1) (List.append hs [hd]), .rows [.ints k 0] 0 (List.append rows [xs])] = some (m + 1, List.append hs [hd], fun i => (((List.append rows [xs]).getD i []).length, Zap k ((List.append rows [xs]).getD i []).length ((List.append rows [xs]).getD i []))) := by cases k <;> rfl
              rw [hf2] at hf
              cases hf
              have hsl : hs.length = m := h6
              rcases Nat.lt_or_ge j m with hjm | hjm
              · have e1 : (List.append hs [hd]).getD j (none, 0, 0) = hs.getD j (none, 0, 0) := by
                  show (hs ++ [hd]).getD j _ = _
                  rw [List.getD_eq_getElem?_getD, List.getElem?_append_left (by omega), <- List.getD_eq_getElem?_getD]
                have e2 : (List.append rows [xs]).getD j ([] : List Int) = rows.getD j [] := by
                  show (rows ++ [xs]).getD j _ = _
                  rw [List.getD_eq_getElem?_getD, List.getElem?_append_left (by omega), <- List.getD_eq_getElem?_getD]
                rw [e1]
                simp only [e2]
                have hh := hr.hid ad.id _ m hs _ haen (by cases k <;> rfl : Za2 [.rows [.hd] m hs, .rows [.ints k 0] 0 rows] = some (m, hs, fun i => ((rows.getD i []).length, Zap k (rows.getD i []).length (rows.getD i [])))) j hjm
                refine hh.to (fun x o v hv hx => ?_) fun x o v hv hn => hcell x o v hv fun hw => hn (.inl ⟨_, _, haen, rfl, hw⟩)
                rcases hx with hx | hx
                · exact .inl (hWr x o (Zdd hv) hx).1
                · exact .inr ⟨rfl, hx.2⟩
              · have hjm' : j = m := by omega
                subst hjm'
                have e1 : (List.append hs [hd]).getD j (none, 0, 0) = hd := by
                  show (hs ++ [hd]).getD j _ = _
                  rw [List.getD_eq_getElem?_getD, List.getElem?_append_right (by omega)]; simp [hsl]
                have e2 : (List.append rows [xs]).getD j ([] : List Int) = xs := by
                  show (rows ++ [xs]).getD j _ = _
                  rw [List.getD_eq_getElem?_getD, List.getElem?_append_right (by omega)]; simp [h7]
                rw [e1]
                simp only [e2]
                cases hρc : ρ c.id with
                | none =>
                  have hl0 := hcok.2 hρc
                  left
                  have hxs : xs = [] := List.eq_nil_of_length_eq_zero (by omega)
                  refine ⟨by simp [hd, hρc, hl0.1, hl0.2], by rw [hxs]; rfl, by rw [hxs]; rfl⟩
                | some p =>
                  obtain ⟨cb, co⟩ := p
                  right
                  refine ⟨cb, co, lc, by simp [hd, hρc, h2], by rw [h2]; exact h4, fun jj v hjj => ?_⟩
                  rw [h2] at hjj
                  have hlt := (List.getElem?_eq_some_iff.1 hjj).1
                  rw [Zac] at hlt
                  have hcv := hEc.cells cb co hρc jj v (by simpa [Zab, Chunk.conc] using hjj)
                  have hwc : Win ρ c.id ⟨true, [.ints k l' xs], ex'⟩ cb (co + jj) := ⟨co, hρc, by omega, by simp [Ent.size, Zam, Chunk.len]; omega⟩
                  refine ⟨hcell _ _ _ hcv (fun hw => hr.apart _ _ _ _ hne.1 haen hcen rfl _ _ hw hwc), fun hx => ?_⟩
                  rcases hx with hx | ⟨_, hx1, hx2⟩
                  · exact (hWr _ _ (Zdd hcv) hx).2 hwc
                  · rcases hr.own _ _ hcen rfl _ _ hwc with hw | hw
                    · exact hx2 hw
                    · omega)
            refine Rel.ext0 hsm (fun j => ?_) rfl
            rw [Heap.find_set, Heap.find_push, Heap.find_push]
            have hnx : Hd.next = H.next := rfl
            by_cases hj : H.next = j
            · simp only [hnx, if_pos hj]
            · simp only [hnx, if_neg hj]
          have hsl : hs.length = m := h6
          have hcm : m + ex = cap := h8
          have hcc : Zal [.hd] m hs = hs.map ZaQ := by rw [<- hsl]; exact Zn9 hs
          have hcc2 : Zal [.hd] (m + 1) (List.append hs [hd]) = hs.map ZaQ ++ [ZaQ hd] := by
            have : (List.append hs [hd]).length = m + 1 := by show (hs ++ [hd]).length = _; simp [hsl]
            rw [<- this, Zn9]
            show (hs ++ [hd]).map ZaQ = _
            simp
          -- the heap as it was, told without the rows
          have hsame : Rel w0 fp ρ (H.set ad.id ⟨true, [.rows [.hd] m hs], ex⟩) w :=
            hr.same haen (by simp [Zab, Chunk.conc, Zal]) (by simp [ZaE, Chunk.ok]) rfl rfl
          have hdrop : Rel w0 fp ρ (((H.set ad.id ⟨true, [.rows [.hd] m hs], ex⟩).drop bd.id).drop c.id) w := (hsame.drop _).drop _
          have hfa : (((H.set ad.id ⟨true, [.rows [.hd] m hs], ex⟩).drop bd.id).drop c.id).find ad.id = some ⟨true, [.rows [.hd] m hs], ex⟩ := by
            rw [Heap.find_drop, if_neg (Ne.symm hne.1), Heap.find_drop, if_neg (Ne.symm hne.2.1), Heap.find_set, if_pos rfl]
          have hlenA : Zam ([.rows [.hd] m hs] : List Chunk) = m := by simp [Zam, Chunk.len, Zaj, Leaf.len]
          have hsizeA : (⟨true, [.rows [.hd] m hs, .rows [.ints k 0] 0 rows], ex⟩ : Ent).size = m + ex := by simp [Ent.size, Zam, Chunk.len, Zaj, Leaf.len]
          have grow : ∀ (base : Option Addr), (Builtin.firstCells 1 m (.slice base m cap)).run P w.drew = .ok (hs.map ZaQ).toArray w.drew -> cap < m + 1 -> SVal.conc ρ (.slice ad m cap) = .slice base m cap ->
              ∃ r w', (Builtin.append_ #[t, t'] o.type #[SVal.conc ρ (.slice ad m cap), SVal.conc ρ (.slice bd 1 bcap)]).run P w = .ok r w' /\ OpPost w0 fp ρ H K r w' := fun base hold hg hcv => by
            rw [hvc, hcv]
            have hbytes : (m + 1) * i.bytes <= 140737488355328 := Nat.le_trans (Nat.mul_le_mul_left _ hb8) (by omega)
            have hrun := run_append_grow_src (P := P) w t t' o.type el i z hu hi hz base m cap (hs.map ZaQ) (by rw [hs1]; exact hold) _ 1 [ZaQ hd] (by rw [hs1]; exact hsrc) hg (by omega) (growslice_fits hg hbytes)
            have hge := grownCap_ge w (m + 1) cap el
            have hal := (((hr.drop ad.id).drop bd.id).drop c.id).drew (w.drawn + 1) |>.alloc (cs := [.rows [.hd] (m + 1) (List.append hs [hd])]) (ex := grownCap w (m + 1) cap el - (m + 1))
              (cells := (hs.map ZaQ ++ [ZaQ hd]).toArray ++ Builtin.zeroCells z.cells (grownCap w (m + 1) cap el - (m + 1))) (t := el) (by simp [ZaE, Chunk.ok]) ⟨(Builtin.zeroCells z.cells (grownCap w (m + 1) cap el - (m + 1))).toList, by simp only [Zab, Chunk.conc, List.append_nil, hcc2, Array.toList_append, List.toList_toArray], by rw [Array.length_toList, size_zeroCells, hzc, Nat.mul_one]⟩
            refine ⟨_, _, hrun, ρ.up H.next (some (w.heap.size, 0)), _, _, hK hd _ hge, ?_, ?_, Rho.up_lt, by simp [Heap.push, Heap.drop], rowsok _ _ _ hal (fun x o v hv _ => ?_) fun x o hx hw => ?_⟩
            · simp [SVal.conc, SAddr.conc, Rho.up_same]
            · simp [SVal.ok, Heap.push, Heap.drop, Rho.up_same]
            · rw [World.cell?_alloc_lt _ _ _ (by have := Zdd hv; exact this)]; exact hv
            · obtain ⟨base', hb', _, _⟩ := hw
              rw [Rho.up_same] at hb'
              cases hb'
              exact absurd hx (Nat.lt_irrefl _)
          cases hρa : ρ ad.id with
          | none =>
            obtain ⟨hm0, hc0'⟩ := hok.2 hρa
            refine grow none ?_ (by omega) (by simp [SVal.conc, SAddr.conc, hρa])
            have hnil : hs = [] := List.eq_nil_of_length_eq_zero (by omega)
            rw [hnil]
            exact run_firstCells_none (P := P) w.drew 1 m m cap
          | some p =>
            obtain ⟨b, base⟩ := p
            have huc : SVal.conc ρ (.slice ad m cap) = .slice (some ⟨b, base, none⟩) m cap := by simp [SVal.conc, SAddr.conc, hρa, ha0, ha1]
            have hcA : Zab ρ [.rows [.hd] m hs, .rows [.ints k 0] 0 rows] = hs.map ZaQ := by simp [Zab, Chunk.conc, hcc]; simp [Zal]
            by_cases hroom : m + 1 <= cap
            · have hown : ∀ j, j < m + ex -> (∃ v', w.cell? ⟨b, base + j, none⟩ = some v') /\ w.frozen? ⟨b, base + j, none⟩ = false := fun j hj => hEa.own rfl b base hρa j (by rw [hsizeA]; exact hj)
              have hrun := run_append_room_src (P := P) w t t' o.type el i hu hi b base m cap (.slice (some ⟨bb, bo, none⟩) 1 bcap) 1 [ZaQ hd] (by rw [hs1]; exact hsrc) hroom
                (fun j hj => by
                  simp only [List.length_singleton] at hj
                  obtain ⟨⟨v', hv'⟩, _⟩ := hown (m + j) (by omega)
                  rw [hs1, Nat.mul_one, Nat.add_assoc, hv']; rfl)
                (fun j hj => by
                  simp only [List.length_singleton] at hj
                  obtain ⟨_, hz'⟩ := hown (m + j) (by omega)
                  rw [hs1, Nat.mul_one, Nat.add_assoc, hz'])
              rw [hs1, Nat.mul_one] at hrun
              have hst := hdrop.store (off := m) (vs := [ZaQ hd]) (cs' := [.rows [.hd] (m + 1) (List.append hs [hd])]) (ex' := cap - (m + 1)) hfa rfl hρa (by simp only [Ent.size, hlenA, List.length_singleton]; omega) (by simp [ZaE, Chunk.ok])
                (by simp only [Zam, Chunk.len, Ent.size, Zaj, Leaf.len]; omega) (fun j v' hj => by
                  simp only [Zab, Chunk.conc, List.append_nil] at hj ⊢
                  rw [hcc2] at hj
                  rw [hcc]
                  rcases Nat.lt_or_ge j m with hjm | hjm
                  · right
                    rw [List.getElem?_append_left (by simp [hsl]; exact hjm)] at hj
                    exact ⟨.inl hjm, hj⟩
                  · left
                    rw [List.getElem?_append_right (by simp [hsl]; exact hjm)] at hj
                    have := (List.getElem?_eq_some_iff.1 hj).1
                    simp only [List.length_map, hsl, List.length_singleton] at this
                    refine ⟨hjm, by simp only [List.length_singleton]; omega, ?_⟩
                    simpa [hsl] using hj)
              have hmv := hst.move (by exact hok.1)
              have hext : Rel w0 fp (ρ.up H.next (ρ ad.id)) (Hd.push ⟨true, [.rows [.hd] (m + 1) (List.append hs [hd])], cap - (m + 1)⟩) (w.setCells b (base + m) [ZaQ hd]) := by
                refine Rel.ext0 hmv (fun j => ?_) rfl
                have hn1 : ((((H.set ad.id ⟨true, [.rows [.hd] m hs], ex⟩).drop bd.id).drop c.id).drop ad.id).next = H.next := rfl
                have hn2 : Hd.next = H.next := rfl
                rw [Heap.find_push, Heap.find_push, hn1, hn2]
                split
                · rfl
                · simp only [Hd, Heap.find_drop, Heap.find_set]
                  by_cases q1 : ad.id = j
                  · simp [q1]
                  · simp [q1]
              rw [huc, hvc]
              refine ⟨_, _, hrun, ρ.up H.next (ρ ad.id), _, _, hK hd cap hroom, ?_, ?_, Rho.up_lt, by simp [Heap.push, Heap.drop], rowsok _ _ _ hext (fun x o v hv hn => ?_) fun x o _ hw => ?_⟩
              · simp [SVal.conc, SAddr.conc, Rho.up_same, hρa]
              · simp [SVal.ok, Heap.push, Heap.drop, Rho.up_same, hρa]
              · rw [World.cell?_setCells_out b _ _ w _ (fun hxb _ => ?_)]
                · exact hv
                · simp only at hxb ⊢
                  subst hxb
                  rcases Nat.lt_or_ge o (base + m) with q | q
                  · exact .inl q
                  · rcases Nat.lt_or_ge o (base + m + 1) with q2 | q2
                    · exact absurd ⟨base, hρa, by omega, by rw [hsizeA]; omega⟩ hn
                    · exact .inr (by simpa using q2)
              · obtain ⟨base', hb', q1, q2⟩ := hw
                rw [Rho.up_same] at hb'
                refine ⟨base', hb', q1, ?_⟩
                rw [hsizeA]
                simp only [Ent.size, Zam, Chunk.len, Zaj, Leaf.len] at q2
                omega
            · refine grow (some ⟨b, base, none⟩) ?_ (by omega) huc
              refine run_firstCells_some w.drew 1 m _ m cap _ (by simp [hsl]) (fun j v' hj => ?_)
              rw [ZbA, World.cell?_drew]
              exact hEa.cells b base hρa j v' (by rw [hcA]; exact hj)
        · exact h'.elim
      · exact h'.elim
    · exact h'.elim
  · cases hf
end
end Go.Sx
